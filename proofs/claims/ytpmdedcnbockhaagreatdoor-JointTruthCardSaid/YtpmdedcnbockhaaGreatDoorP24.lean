/-
  CtA; CtB; CtC; CtD; CtE; CtF
-/
import Derived.Deep.AppendLies
import Derived.Sort.OwnSortedInts
import Derived.Test.YtpmdedcnbockhaaGreatDoorP23
set_option maxRecDepth 100000
set_option maxHeartbeats 8000000
namespace Go.Proofs.YtpmdedcnbockhaaGreatDoor
section
open Go.RowKit Go.Shelf
theorem N7(l:List Int):(aR l).length=l.length:=eF _
theorem nY(l:List Int)(x:Int):aR (l++[x])=aR l++[.int .i64 x]:=by simp[aR]
theorem C_(l:List Int):∀u∈aR l,u.oneCell'=true:=by
 intro u hu;obtain⟨x,_,rfl⟩:=dU.1 hu;rfl
theorem gQ{l:List Int}{i:Nat}{x:Int}(h:l[i]?=some x):(aR l)[i]?=some (.int .i64 x):=by simp[aR,h]
section
variable {w w':World} {B:Nat} {e:TypeId} {size n:Nat} {v:Value} {xs:List Value}
theorem bX{S:Nat->Prop}(h:w.ownsRow B e size v n xs)(hu:aH S w w')(hS:∀k,v.ownBlock=some k->¬S k):w'.ownsRow B e size v n xs:=by
 refine⟨h.1,?_⟩;rcases h.2 with h0|⟨g,cap,cur,rfl,hB,hg,r⟩
 .exact .inl h0
 .exact .inr ⟨g,cap,cur,rfl,hB,hu.keep hg (hS g rfl),r⟩
theorem BD{B':Nat}(h:w.ownsRow B e size v n xs)(hb:∀g,v.ownBlock=some g->B'<=g):w.ownsRow B' e size v n xs:=by
 refine⟨h.1,?_⟩;rcases h.2 with h0|⟨g,cap,cur,rfl,hB,hg,r⟩
 .exact .inl h0
 .exact .inr ⟨g,cap,cur,rfl,hb g rfl,hg,r⟩
theorem ny{A:Option Addr}{c:Nat}(h:w.ownsRow B e size (.slice A n c) n xs)(hn:0<n):∃g,A=some ⟨g,0,none⟩/\B<=g/\g<w.heap.size/\n<=c/\c<=maxLen/\∀i u,xs[i]?=some u->w.cell? ⟨g,i,none⟩=some u:=by
 rcases rE h with⟨h0,_⟩|⟨g,rfl,hB,ho⟩
 .omega
 .rcases h.2 with⟨_,h0⟩|⟨g',cap,cur,hv,_,_,h2,h3,_⟩
  .omega
  .simp only[Value.slice.injEq,true_and]at hv
   obtain⟨_,rfl⟩:=hv;exact⟨g,rfl,hB,ho.lt,h2,h3,λi u hi=>ho.cell hi⟩
end
theorem xR{F:Fence}{nf:Nat}{P:Program}{w:World}{ops:Array Oper}{rest:List Oper}{o:Oper}{a:Act}{Q:Exit->Act->World->Prop}
 (hg:o.guard=none)(s x:Operand)(t:TypeId)(hop:o.op=Op.call {callee:=Callee.builtin Builtin.append,args:=#[s,x],argTypes:=#[t,t]})
 (base:Nat)(e:TypeId)(i:TypeInfo)(z:Value)(size bytes:Nat)(ht:P.underlying t=some (.slice e))(hi:P.info? e=some i)(hz:i.zero=some z)(hsize:i.size=size)(hby:i.bytes=bytes)(hzs:z.cells.size=size)(hsz:0<size)
 (v:Value)(n:Nat)(xs:List Value)(hs:a.eval s=v)(hown:w.ownsRow base e size v n xs)(bx:Nat)(cs:Array Value)(tx:TypeId)(fr:Nat×Nat)(hx:a.eval x= .slice (some ⟨bx,0,none⟩) 1 1)(hbx:w.heap[bx]?=some (.cells cs tx fr))(hl:cs.size=size)(h1:∀u∈cs.toList,u.oneCell'=true)
 (h63:n+1<=maxLen)(jw:(n+1)*bytes<=140737488355328)(hbase:base<=w.heap.size)
 (hK:∀g cap w',w'.ownsRow base e size (.slice (some ⟨g,0,none⟩) (n+1) cap) (n+1) (xs++cs.toList)->w.grownBy w' v.ownBlock->(v.ownBlock=some g\/g=w.heap.size)->wpListIn F nf P ops Q rest (a.put o.dst (.slice (some ⟨g,0,none⟩) (n+1) cap)) w'):
 wpListIn F nf P ops Q (o::rest) a w:=by
 refine wpListIn_plain hg λK hK'=>?_;obtain⟨g,cap,w',hrun,r1,r2,r3,_⟩:=run_append_lies (P:=P) w t o.type base e i z size bytes ht hi hz hsize hby hzs hsz v n xs hown ⟨bx,0,none⟩ 1 1 cs.toList (by simp[hl]) (World.news_of_block hbx) h1 (by omega) h63 jw hbase _ rfl;unfold Oper.wpIn;refine⟨?_,?_⟩
 .simp[Oper.about,hop,resolve,Target.leads,Sem.run_pure]
 .rw[Oper.semAt_plain F _ _ (by rw[hop];intro c hc';cases hc')]
  simp[execOp,hop,resolve,invoke,builtin,hs,hx,hrun,Result.andThen];exact hK' _ _ (hK g cap w' r1 r2 r3)
def N8(W0:World)(e:TypeId)(cs:Array Value):bO:=
 ⟨λv=>∃b,W0.heap.size<=b/\v= .slice (some ⟨b,0,none⟩) 1 1,λv z=>∀b,v= .slice (some ⟨b,0,none⟩) 1 1->z.heap[b]?=some (.cells cs e (0,0))⟩
theorem Ho(W0:World)(e:TypeId)(cs:Array Value):(N8 W0 e cs).Keeps:=λv z z' h hb b hv=>by
 have h1:=h b hv;rw[hb.block b (av h1)];exact h1
structure bZ(w:World)(B rb:Nat)(vs:List Value)(L:List (List Int))(k:Nat):Prop where
 own:Own w 22 rb vs
 len:vs.length=L.length
 row:∀(i:Nat) v l,k<=i->vs[i]?=some v->L[i]?=some l->w.ownsRow B 3 1 v l.length (aR l)
 sep:∀(i j:Nat) v v' b,i≠j->vs[i]?=some v->vs[j]?=some v'->v.ownBlock=some b->v'.ownBlock≠some b
 low:∀v∈vs,∀b,v.ownBlock=some b->B<=b/\b<w.heap.size/\b≠rb
section
variable {w w':World} {B rb k:Nat} {vs:List Value} {L:List (List Int)}
theorem bZ.below(h:bZ w B rb vs L k)(hb:Below w.heap.size w w'):bZ w' B rb vs L k:=
 ⟨h.own.below hb,h.len,λi v l hk hv hl=>dM (h.row i v l hk hv hl) hb,h.sep,λv hv b hb'=>⟨(h.low v hv b hb').1,jX (h.low v hv b hb').2.1 hb.size,(h.low v hv b hb').2.2⟩⟩
theorem bZ.upd{S:Nat->Prop}(h:bZ w B rb vs L k)(hu:aH S w w')(hr:¬S rb)(hS:∀v∈vs,∀b,v.ownBlock=some b->¬S b):bZ w' B rb vs L k:=
 ⟨h.own.keep hu hr,h.len,λi v l hk hv hl=>bX (h.row i v l hk hv hl) hu (hS v (cK hv)),h.sep,λv hv b hb'=>⟨(h.low v hv b hb').1,jX (h.low v hv b hb').2.1 hu.size,(h.low v hv b hb').2.2⟩⟩
theorem bZ.get(h:bZ w B rb vs L k){i:Nat}{l:List Int}(hk:k<=i)(hl:L[i]?=some l):∃A c,vs[i]?=some (.slice A l.length c)/\w.ownsRow B 3 1 (.slice A l.length c) l.length (aR l):=by
 have hi:i<vs.length:=by rw[h.len];exact(aZ.1 hl).1
 have hv:=aT hi;have hr:=h.row i _ l hk hv hl;obtain⟨A,c,e⟩:=ownsRow_form hr;rw[e]at hv hr;exact⟨A,c,hv,hr⟩
theorem bZ.turned(h:bZ w B rb vs L k){i:Nat}{v v':Value}{l':List Int}{S:Nat->Prop}{W:World}(hv:vs[i]?=some v)(hu:aH S w W)(hS:∀b,S b->v.ownBlock=some b\/w.heap.size<=b)(hrow:W.ownsRow B 3 1 v' l'.length (aR l'))(tV:v'.ownBlock=v.ownBlock\/∀b,v'.ownBlock=some b->w.heap.size<=b):
 bZ (W.setCell ⟨rb,i,none⟩ v') B rb (vs.set i v') (L.set i l') k:=by
 have hi:i<vs.length:=(aZ.1 hv).1;have hrb:=h.own.lt;have hl0:=h.low v (cK hv);have hnr:¬S rb:=λhs=>by
  rcases hS rb hs with e|e
  .exact(hl0 rb e).2.2 rfl
  .omega
 have hown:=h.own.keep hu hnr;have hu2:aH (λb=>b=rb) W (W.setCell ⟨rb,i,none⟩ v'):=(aH.refl (λb=>b=rb) W).setCell (p:=⟨rb,i,none⟩) (.inl rfl) v';have hnew:∀b,v'.ownBlock=some b->B<=b/\b<W.heap.size/\b≠rb:=λb hb=>by
  have h1:=hrow.lt b hb;refine⟨h1.1,h1.2,?_⟩;rintro rfl;rcases tV with e|e
  .rw[e]at hb
   exact(hl0 _ hb).2.2 rfl
  .have:=e _ hb;omega
 have hother:∀(j:Nat) v2,j≠i->vs[j]?=some v2->∀b,v2.ownBlock=some b->¬S b/\v'.ownBlock≠some b:=λj v2 hj hv2 b hb=>by
  have hlt:=(h.low v2 (cK hv2) b hb).2.1;refine⟨λhs=>?_,λe2=>?_⟩
  .rcases hS b hs with e|e
   .exact h.sep i j v v2 b (λe=>hj e.symm) hv hv2 e hb
   .omega
  .rcases tV with e|e
   .rw[e]at e2
    exact h.sep i j v v2 b (λe=>hj e.symm) hv hv2 e2 hb
   .have:=e b e2;omega
 refine⟨hown.set hi _,by simp[h.len],λj v2 l2 hk hv2 hl2=>?_,λj j2 v2 v3 b hne h2 h3 hb=>?_,λv2 hv2 b hb=>?_⟩
 .rw[jI]at hv2 hl2
  by_cases e:i=j
  .subst e
   rw[if_pos rfl,if_pos hi]at hv2;rw[if_pos rfl,if_pos (by rw[<-h.len];exact hi)]at hl2;cases hv2
   cases hl2
   exact bX hrow hu2 (λb hb=>(hnew b hb).2.2)
  .rw[if_neg e]at hv2 hl2
   have hr:=h.row j v2 l2 hk hv2 hl2;refine bX (bX hr hu (λb hb=>(hother j v2 (λe2=>e e2.symm) hv2 b hb).1)) hu2 (λb hb=>(h.low v2 (cK hv2) b hb).2.2)
 .rw[jI]at h2 h3
  by_cases e:i=j
  .subst e
   rw[if_pos rfl,if_pos hi]at h2;rw[if_neg hne]at h3;cases h2
   exactλe2=>(hother j2 v3 (λe3=>hne e3.symm) h3 b e2).2 hb
  .rw[if_neg e]at h2
   by_cases e2:i=j2
   .subst e2
    rw[if_pos rfl,if_pos hi]at h3;cases h3
    exact(hother j v2 hne h2 b hb).2
   .rw[if_neg e2]at h3
    exact h.sep j j2 v2 v3 b hne h2 h3 hb
 .rw[World.size_setCell]
  rcases List.mem_or_eq_of_mem_set hv2 with h2|rfl
  .have h3:=h.low v2 h2 b hb
   exact⟨h3.1,jX h3.2.1 hu.size,h3.2.2⟩
  .exact hnew b hb
theorem bZ.changed(h:bZ w B rb vs L k){S:Nat->Prop}{W:World}{v:Value}(hv:vs[k]?=some v)(hu:aH S w W)(hS:∀b,S b->v.ownBlock=some b):bZ W B rb vs L (k+1):=by
 have hl0:=h.low v (cK hv);refine⟨h.own.keep hu (λhs=>(hl0 rb (hS rb hs)).2.2 rfl),h.len,λi v2 l hk hv2 hl=>bX (h.row i v2 l (by omega) hv2 hl) hu (λb hb hs=>h.sep k i v v2 b (by omega) hv hv2 (hS b hs) hb),h.sep,λv2 hv2 b hb'=>?_⟩;have h3:=h.low v2 hv2 b hb';exact⟨h3.1,jX h3.2.1 hu.size,h3.2.2⟩
theorem bZ.made{n:Nat}(h:Own w 22 rb (List.replicate n (.slice none 0 0))):bZ w B rb (List.replicate n (.slice none 0 0)) (List.replicate n []) 0:=by
 refine⟨h,by simp,λi v l _ hv hl=>?_,λi j v v' b _ hv _ hb=>?_,λv hv b hb=>?_⟩
 .rw[Am]at hv hl
  split at hv
  .rename_i hi
   rw[if_pos hi]at hl;cases hv
   cases hl
   exact World.ownsRow_nil _ _ _ _
  .cases hv
 .rw[Am]at hv
  split at hv
  .cases hv;cases hb
  .cases hv
 .rw[List.eq_of_mem_replicate hv]at hb
  cases hb
end
theorem J9(n:Nat):(madeCells (Value.cells (.slice none 0 0)) (n*1)).toList=List.replicate n (.slice none 0 0):=by
 apply kX;intro j;rcases iA j n with h|h
 .simp[madeCells,Value.cells,h,Nat.mod_one]
 .simp[madeCells,Value.cells,h]
theorem N9{B:Nat}{A:Option Addr}{c:Nat}{l:List Int}(w:World)(h:w.ownsRow B 3 1 (.slice A l.length c) l.length (aR l))(hl:l.length<=1000000):
 Calls Tryz.prog 40 #[.slice A l.length c] w (λe w'=>e= .returned (.tuple #[])/\w'.ownsRow B 3 1 (.slice A l.length c) l.length (aR (l.mergeSort (λx y=>decide (x<=y))))/\aH (λb=>(Value.slice A l.length c).ownBlock=some b) w w'):=by
 have hlen:(l.mergeSort (λx y=>decide (x<=y))).length=l.length:=(List.mergeSort_perm l _).length_eq;rcases h.2 with⟨hv,h0⟩|⟨g,cap,cur,hv,hB,hg,h2,h3,h4,h5⟩
 .simp only[Value.slice.injEq]at hv
  obtain⟨rfl,h0',rfl⟩:=hv;obtain rfl:=Dr h0;refine(AnyM.slices_Sort_int_none Tryz.sortItI none 0 w).mono ?_;rintro e w' ⟨rfl,rfl⟩;exact⟨rfl,by simpa using h,aH.refl _ _⟩
 .simp only[Value.slice.injEq,true_and]at hv
  obtain⟨rfl,rfl⟩:=hv;rw[Nat.mul_one]at h5 h4;refine(AnyM.slices_Sort_int Tryz.sortItI g 0 c l w (holds_of_blockI hg h5) (av hg) (by omega)).mono ?_;rintro e w' ⟨rfl,n,os,rfl⟩;refine⟨rfl,?_,aH.jm (grownBy_sortedI _)⟩;exact ownsRow_sortedI (cur:=cur) hlen hB hg h2 h3 (by rw[h4,Nat.mul_one])
end
section
open Go.RowKit Go.Shelf
def wm(F:List aB)(r:Int):Option Value:=(F.find? (λx=>x.ref==r)).map (λx=>Value.int .i64 x.act)
theorem UE{F:List aB}{x:aB}(h:wm F x.ref=none)(r:Int):(if r=x.ref then some (Value.int .i64 x.act)else wm F r)=wm (F++[x]) r:=by
 unfold wm at*;rw[List.find?_append];by_cases e:r=x.ref
 .subst e
  rw[if_pos rfl];simp only[Option.map_eq_none_iff]at h;rw[h];simp
 .rw[if_neg e]
  have:List.find? (λy:aB=>y.ref==r) [x]=none:=by simp[show(x.ref==r)=false by simp;exactλh2=>e h2.symm]
  rw[this,Option.or_none]
theorem Da{F:List aB}{r:Int}:wm F r=none↔r∉F.map (·.ref):=by
 unfold wm;simp only[Option.map_eq_none_iff,List.find?_eq_none,dU];simp
theorem Lr{F:List aB}{x:aB}(h:eY F)(hx:wm F x.ref=none):eY (F++[x]):=by
 unfold eY at*;rw[Da]at hx;rw[uf,List.nodup_append];exact⟨h,by simp,λa ha b hb e=>by simp at hb;rw[e,hb]at ha;exact hx ha⟩
theorem N_{F:List aB}{k:Nat}{x:aB}{v:Value}(hx:F[k]?=some x)(hv:wm (F.take k) x.ref=some v):¬eY F:=λh=>by
 have h1:x.ref∈(F.take k).map (·.ref):=by
  apply Classical.byContradiction;intro h2;rw[<-Da,hv]at h2;cases h2
 obtain⟨y,hy,e⟩:=dU.1 h1;obtain⟨i,hi⟩:=jV.1 hy;rw[lZ]at hi;split at hi
 .rename_i hik
  obtain⟨a1,rfl⟩:=aZ.1 hi;obtain⟨a2,rfl⟩:=aZ.1 hx;have h3:=Du.1 h i k (by simpa using a1) (by simpa using a2) hik;simp at h3;exact h3 e
 .cases hi
def jG(F:List aB)(D:List Int)(n k:Nat):List (List Int):=(List.range n).map (λd:Nat=>fE (F.take k) (D.take k) (d:Int))
theorem Oa(F:List aB)(D:List Int)(n:Nat):jG F D n 0=List.replicate n []:=by
 apply kX;intro i;simp[jG,fE,Am];by_cases h:i<n<;>simp[h]
theorem xS{F:List aB}{D:List Int}(hl:F.length=D.length)(x:aB)(e d:Int):fE (F++[x]) (D++[e]) d=fE F D d++if e=d then[x.ref]else[]:=by
 unfold fE;rw[List.zip_append hl,List.filter_append,uf];congr 1;by_cases h:e=d<;>simp[h]
theorem Ob{F:List aB}{D:List Int}{n k:Nat}(hl:F.length=D.length){x:aB}{e:Int}(hx:F[k]?=some x)(he:D[k]?=some e)(h:¬(0<=e/\e<n)):jG F D n (k+1)=jG F D n k:=by
 unfold jG;refine List.map_congr_left λd hd=>?_;rw[bS hx,bS he,xS (by simp[hl]),if_neg (by have:=List.mem_range.1 hd;omega),b_]
theorem QO{F:List aB}{D:List Int}{n k:Nat}(hl:F.length=D.length){x:aB}{d:Nat}(hx:F[k]?=some x)(he:D[k]?=some (d:Int))(h:d<n):jG F D n (k+1)=(jG F D n k).set d (fE (F.take k) (D.take k) d++[x.ref]):=by
 apply kX;intro i;unfold jG;rw[jI];simp only[gG,eF,List.length_range];rw[bS hx,bS he];by_cases e:d=i
 .subst e
  rw[if_pos rfl,if_pos h,Ao h,j3,xS (by simp[hl]),if_pos rfl]
 .rw[if_neg e]
  cases hr:(List.range n)[i]? with
  |none=>rfl
  |some j=>
   have hj:j=i:=by
    obtain⟨a,b⟩:=aZ.1 hr;simp at b;exact b.symm
   rw[j3,j3,xS (by simp[hl]),if_neg (by omega),b_]
theorem QS{F:List aB}{D:List Int}{n k d:Nat}(h:d<n):(jG F D n k)[d]?=some (fE (F.take k) (D.take k) d):=by
 unfold jG;rw[gG,Ao h,j3]
theorem Hq(F:List aB)(D:List Int)(d:Int):(fE F D d).length<=F.length:=by
 unfold fE;rw[eF];refine bF (List.length_filter_le _ _) ?_;rw[List.length_zip];omega
theorem Ls{l:List Int}(h:l.Nodup):l.mergeSort (λx y=>decide (x<=y))=mQ l:=by
 have hp:=List.mergeSort_perm l (λx y:Int=>decide (x<=y));refine MV ?_ (KJ l) (λx=>hp.mem_iff.trans (qM l x).symm);have h1:=List.pairwise_mergeSort (le:=λx y:Int=>decide (x<=y)) (λa b c h h'=>by simp only[decide_eq_true_eq]at*;omega) (λa b=>by simp only[qd,decide_eq_true_eq];omega) l;have h2:(l.mergeSort (λx y=>decide (x<=y))).Nodup:=hp.nodup_iff.2 h;exact List.Pairwise.imp₂ (λa b h3 h4=>by simp only[decide_eq_true_eq]at h3;omega) h1 h2
theorem ZN{F:List aB}{r:Int}(h:r∈F.map (·.ref)):wm F r=some (.int .i64 (jq F r)):=by
 cases e:wm F r with
 |none=>exact absurd h (Da.1 e)
 |some v=>
  unfold wm at e;unfold jq;cases e2:F.find? (λx=>x.ref==r)with
  |none=>rw[e2]at e;cases e
  |some x=>
   rw[e2]at e;simp only[j3,Option.some.injEq]at e;rw[<-e];rfl
theorem BF{F:List aB}{D:List Int}(hl:F.length=D.length)(h:eY F)(n:Nat):(blocks F D n).length<=F.length+n:=by
 rw[I9 hl h,hl];have:=List.countP_le_length (p:=λe=>decide (0<=e)&&decide (e<(n:Int))) (l:=D);omega
def ZO(l:List Int)(w:World)(e:Ending)(w':World):Prop:=
 ∃(A:Option Addr)(c:Nat),e= .returned (.slice A l.length c)/\w'.ownsRow w.heap.size 3 1 (.slice A l.length c) l.length (aR l)/\Below w.heap.size w w'
attribute [local go_sem] jS stillUpon bK
theorem UF(fA:Option Addr)(fc:Nat)(dA:Option Addr)(dc:Nat)(F:List aB)(D:List Int)(u:Int)(w:World)(hF:At w 6 fA F.length fc (bE F))(hD:At w 1 dA D.length dc (aR D))(hR:∀x∈F,gW x.ref)(hn:F.length<=4000):
 Calls Tryz.prog 16 #[.slice fA F.length fc,.slice dA D.length dc,.int .i64 u] w (ZO (gM F D u) w):=by
 have HF:=ah hF;clear hF;have HD:=ah hD;clear hD;have HR:=ah hR;clear hR;obtain⟨T,HT⟩:∃T,Hid (T=gM F D u):=⟨_,rfl⟩;rw[<-HT.out];by_cases h1:F.length=D.length
 .by_cases h2:0<=u
  .by_cases h3:u<=2000
   .obtain⟨n,rfl⟩:∃n:Nat,u=n:=⟨u.toNat,by omega⟩
    have hn2:n<=2000:=by omega
    have q1:((F.length:Int)!=(D.length:Int))=false:=by simp[h1]
    have q2:((n:Int)<0)=False:=by simp
    have q3:((2000:Int)<n)=False:=by simp;omega
    have Sz:=ah h1;clear h1 h2 h3;have hmm:=@run_makeMap Tryz.prog;go_enter Tryz.func16,Tryz.ntmps16;obtain⟨ip,hip,hpz,hps,hpb⟩:=info_parts' (P:=Tryz.prog) (t:=22) (z:=some (.slice none 0 0)) (s:=1) (b:=24) (by kernel_rfl);obtain⟨ii,hii,hiz,his,hib⟩:=info_parts' (P:=Tryz.prog) (t:=3) (z:=some (.int .i64 0)) (s:=1) (b:=8) (by kernel_rfl);have hmk:=λw:World=>run_makeSlice (P:=Tryz.prog) (w:=w) 84 22 ip _ Tryz.underlying84 hip hpz .i64 .i64 (n:Int) (n:Int) (by omega) (by omega) (by rw[hps];simp;omega) (by rw[hpb];omega) (by omega);simp only[su,hps]at hmk;go_upto_region 4 with(fail)
    have hM:d9 gW 3 encI (w.alloc (.map #[] 0)) w.heap.size 0 (λ_=>none):=d9.made w;have hsz1:(w.alloc (.map #[] 0)).heap.size=w.heap.size+1:=aM _ _;generalize hW1:w.alloc (.map #[] 0)=W1 at hM hsz1⊢;have hb1:Below w.heap.size w W1:=by rw[<-hW1];exact aK (aD _ _) _
    clear hW1;have hx:=hmk W1;clear hmk;go_upto_region 5 with(fail)
    generalize CF:World.alloc _ _=Wb;have hbb:Below W1.heap.size W1 Wb:=by rw[<-CF];exact aK (aD _ _) _
    have hOW:Own Wb 22 (w.heap.size+1) (List.replicate n (.slice none 0 0)):=by
     refine⟨[],?_⟩;rw[b_,<-J9,Array.toArray_toList,<-CF,<-hsz1,Nat.mul_one];exact bC W1 _
    have ZP:Hid (bZ (Bl.val (⟨Wb,ay hb1 hbb⟩:Bl w)) (w.heap.size+2) (w.heap.size+1) (List.replicate n (.slice none 0 0)) (jG F D n 0) 0):=by
     show bZ _ _ _ _ _ _;rw[Oa];exact bZ.made hOW
    have XE:Hid (d9 gW 3 encI (Bl.val (⟨Wb,ay hb1 hbb⟩:Bl w)) w.heap.size 0 (wm (F.take 0))):=hM.below hM.lt hbb;change Code.wp _ _ _ _ (Bl.val (⟨Wb,ay hb1 hbb⟩:Bl w));generalize(⟨Wb,ay hb1 hbb⟩:Bl w)=s0 at ZP XE⊢;clear hOW hbb CF hx hM hb1 hsz1 hip hpz hps hpb ip W1;go_wp2
    go_loopg [37] F.length (λgk v37 wr=>∃(k nn:Nat)(z:Bl w)(vs:List Value),gk=F.length - k/\k<=F.length/\v37= .int .i64 k/\wr=z.val/\nn<=k/\Hid (d9 gW 3 encI z.val w.heap.size nn (wm (F.take k)))/\Hid (bZ z.val (w.heap.size+2) (w.heap.size+1) vs (jG F D n k) 0)/\Hid (eY (F.take k)))
    case atStart=>
     have ajd:Hid (eY (F.take 0)):=by show eY _;simp[eY]
     exact⟨0,0,s0,_,rfl,aV _,rfl,rfl,bH _,XE,ZP,ajd⟩
    case round=>
     obtain⟨k,nn,z,vs,eH,hk,rfl,rfl,hnn,HM,HRW,Lg⟩:=hrel;have iB:=ah eH;clear eH XE ZP;by_cases hlt:k<F.length
     .obtain⟨fb,fo,kI,hfb,hcell⟩:=HF.out.fact (by omega)
      subst kI;obtain⟨⟨re,ac,lo,hi,fi,se⟩,hx⟩:∃x,F[k]?=some x:=⟨F[k],aT hlt⟩;obtain⟨e0,e1,e2,e3,e4,e5⟩:=TW (λz hz=>hcell k _ hx z hz) rfl;have hre:gW re:=HR.out _ (cK hx);have hfd:=Sz.out;obtain⟨db,afF,hDA,hdb,hdc⟩:=HD.out.1.form (by omega) (by omega);subst hDA;obtain⟨d,hd⟩:∃d,D[k]?=some d:=⟨D[k]'(by omega),aT (by omega)⟩;have ed:∀z:Bl w,z.val.cell? ⟨db,afF+k,none⟩=some (.int .i64 d):=λz=>by
       rw[z.prop.cell (p:=⟨db,afF+k,none⟩) hdb,hdc k (by omega)];exact gQ hd
      have HX:=ah hx;clear hx hcell;have HDX:=ah hd;clear hd hdc;have j1:(k:Int)<(F.length:Int):=by omega
      have j2:(k:Int)<(D.length:Int):=by omega
      clear hfd;go_upto_region 8 with(fail)
      generalize hWa:World.alloc _ _=Wa;obtain⟨hba,hxa⟩:=bx1' hWa;clear hWa;have o9:Hid (Below w.heap.size w Wa):=ay z.prop hba;obtain⟨d0,d1,d2,d3,d4,d5⟩:=kc6 hxa;have HXA:Hid (Own Wa 56 z.val.heap.size [.int .i64 re,.int .i64 ac,.int .i64 lo,.int .i64 hi,.int .i64 fi,.bool se]):=⟨[],by rw[b_];exact hxa⟩;clear e0 e1 e2 e3 e4 e5;have hma:=HM.out.below HM.out.lt hba;have HRA:=ah (HRW.out.below hba);have lk:=d9.KO AP Tryz.underlying90 hma (RX Wa) hre (Ci hre);have q0:=d0 ⟨Wa,aD _ _⟩;have q1':=d1 ⟨Wa,aD _ _⟩;have HB0:=ah d0;clear d0 d1 d2 d3 d4 d5;simp only at q0 q1';cases hav:wm (F.take k) re with
      |some v=>
       rw[hav]at lk;simp only[Option.getD_some,Option.isSome_some]at lk;have hT:T=[]:=by
        rw[HT.out];unfold gM;rw[if_neg (λh=>N_ HX.out hav h.2.2.2)]
       subst hT;clear hav hma HM HRW HRA Lg HB0 HXA q1';go_wp2;go_ret;exact⟨none,0,rfl,World.ownsRow_nil _ _ _ _,o9.out⟩
      |none=>
       obtain⟨w2,hrun,hm2,htr⟩:=d9.put qZ AP Tryz.underlying90 hma (by unfold maxLen;omega) hre (Ci hre) (.int .i64 ac);rw[hav]at lk;simp only[Option.getD_none,Option.isSome_none]at lk;go_upto_region 12 with(fail)
       have HAV:Hid (eY (F.take (k+1))):=by show eY _;rw[bS HX.out];exact Lr Lg.out hav
       have Ag:Hid (d9 gW 3 encI w2 w.heap.size (if((wm (F.take k)) re).isSome then nn else nn+1) (wm (F.take (k+1)))):=by
        show d9 _ _ _ _ _ _ _;rw[bS HX.out];exact hm2.congr (λr=>UE (x:=(⟨re,ac,lo,hi,fi,se⟩:aB)) hav r)
       obtain⟨nn',acw⟩:∃nn',nn'=(if((wm (F.take k)) re).isSome then nn else nn+1):=⟨_,rfl⟩;rw[<-acw]at Ag;have acy:nn'<=k+1:=by rw[acw];split<;>omega
       clear acw hav hm2 hrun lk hma HM Lg;have hzs:=z.prop.size;have uR:Hid (aH (λb=>b=w.heap.size) Wa w2):=gP htr;have ajf:w.heap.size<z.val.heap.size:=by have:=HRW.out.own.lt;omega
       have J5:Hid (Own w2 56 z.val.heap.size [.int .i64 re,.int .i64 ac,.int .i64 lo,.int .i64 hi,.int .i64 fi,.bool se]):=HXA.out.keep uR.out (by omega);have HR2:Hid (bZ w2 (w.heap.size+2) (w.heap.size+1) vs (jG F D n k) 0):=HRA.out.upd uR.out (by omega) (λv hv b hb e=>by have:=(HRA.out.low v hv b hb).1;omega);have HB2:Hid (Below w.heap.size w w2):=o9.out.trans (vP htr (bH _));clear htr HRA HB0 o9 HXA q0 q1';obtain⟨bx,hbx⟩:∃bx,bx=z.val.heap.size:=⟨_,rfl⟩;rw[<-hbx]at J5⊢;have aoa:w.heap.size+2<=bx:=by have:=HRW.out.own.lt;omega
       clear uR ajf hzs hba HRW hbx;have ed2:=ed ⟨w2,HB2.out⟩;simp only at ed2;clear ed;by_cases hin:0<=d/\d<(n:Int)
       .obtain⟨dd,rfl⟩:∃dd:Nat,d=dd:=⟨d.toNat,by omega⟩
        have hdn:dd<n:=by omega
        go_upto_region 14 with(fail)
        obtain⟨rA,rc,hvd,hrow⟩:=HR2.out.get (aV dd) (QS hdn);have UG:Hid (jG F D n (k+1)=(jG F D n k).set dd (fE (F.take k) (D.take k) dd++[re])):=QO Sz.out HX.out HDX.out hdn;have hlr:=Hq (F.take k) (D.take k) dd;rw[p9]at hlr;have Jo:=ah hvd;clear hvd;obtain⟨l,HL⟩:∃l,Hid (l=fE (F.take k) (D.take k) dd):=⟨_,rfl⟩;rw[<-HL.out]at hrow hlr UG Jo;have mG:=ah hrow;clear hrow;have hll:l.length<=4000:=by omega
        clear hlr;obtain⟨rb,hrb⟩:∃rb,rb=w.heap.size+1:=⟨_,rfl⟩;rw[<-hrb]at HR2⊢;have Mi:=ah hrb;clear hrb;have x0:∀y:Bl w2,y.val.cell? ⟨bx,0,none⟩=some (.int .i64 re):=λy=>(J5.out.below y.prop).cell rfl;have x1:∀y:Bl w2,y.val.cell? ⟨rb,dd,none⟩=some (.slice rA l.length rc):=λy=>(HR2.out.below y.prop).own.cell Jo.out;have x2:∀y:Bl w2,y.val.frozen? ⟨rb,dd,none⟩=false:=λy=>(HR2.out.below y.prop).own.frozen dd;refine Gf (s:=(⟨w2,aD _ _⟩:Bl w2)) 9 (λi=>match i with
         |8=>some (N8 w2 3 #[.int .i64 re])
         |_=>none) (λ_=>[]) [] [0,1] (by simp) (by kernel_rfl) (by kernel_rfl) (by simp) ?panics (by kernel_rfl) (by intro p hp;simp at hp) ?keeps ?_
        case panics=>
         intro e _ o v c a w _ h;revert h;cases o.dst<;>exact id
        case keeps=>
         intro i sp h;split at h
         .injection h with h;subst h;exact Ho _ _ _
         .cases h
        simp only[fK,bV,fT,cO];repeat(refine TR rfl (λK hK=>?_);go_simp;refine hK _ ?_;clear hK K)
        refine WG _ rfl rfl ?_ (λy _=>?_) ?_
        .exact⟨_,w2.heap.size,bH _,rfl⟩
        .go_simp
         refine⟨⟨_,y.prop.size,rfl⟩,λb hb=>?_,aK (aD _ _) _⟩;simp only[Value.slice.injEq,Option.some.injEq,Addr.mk.injEq,and_true]at hb;subst hb;exact bC _ _
        rintro _ ⟨gb,hgb,rfl⟩;refine Zj ?_;rintro y ⟨_,hA⟩;have hnew:=hA gb rfl;clear hA;have hRy:=HR2.out.below y.prop;have hly:=hRy.own.lt;refine xR rfl _ _ 22 rfl (w.heap.size+2) 3 ii (.int .i64 0) 1 8 Tryz.underlying22 hii hiz his hib rfl (by decide) _ l.length _ rfl (dM mG.out y.prop) gb #[.int .i64 re] 3 (0,0) rfl hnew rfl (by intro u hu;simp only[dZ]at hu;subst hu;rfl) (by unfold maxLen;omega) (by omega) (by have:=Mi.out;omega) ?_;intro g6 c6 w6 h6 YL tV;have Jk:aH (λb=>(Value.slice rA l.length rc).ownBlock=some b) y.val w6:=aH.jm YL;have acz:¬(Value.slice rA l.length rc).ownBlock=some rb:=λe=>(HR2.out.low _ (cK Jo.out) rb e).2.2 rfl;have y0:w6.cell? ⟨rb,dd,none⟩=some (.slice rA l.length rc):=(bP Jk hly acz).trans (x1 y);have y1:w6.frozen? ⟨rb,dd,none⟩=false:=(Ue Jk hly acz).trans (x2 y);have HT6:Hid (bZ (w6.setCell ⟨rb,dd,none⟩ (.slice (some ⟨g6,0,none⟩) (l.length+1) c6)) (w.heap.size+2) rb (vs.set dd (.slice (some ⟨g6,0,none⟩) (l.length+1) c6)) (jG F D n (k+1)) 0):=by
         show bZ _ _ _ _ _ _;rw[UG.out];refine hRy.turned Jo.out Jk (λb hb=>.inl hb) ?_ ?_
         .have e:(l++[re]).length=l.length+1:=by simp
          rw[e,nY];exact h6
         .rcases tV with e|e
          .have e':(Value.slice rA l.length rc).ownBlock=some g6:=e
           exact .inl (by rw[e'];rfl)
          .exact .inr (λb hb=>by simp only[Value.ownBlock,Option.some.injEq]at hb;omega)
        have vC:Hid (aH (λb=>w.heap.size+1<=b) w2 (w6.setCell ⟨rb,dd,none⟩ (.slice (some ⟨g6,0,none⟩) (l.length+1) c6))):=by
         refine aH.setCell ((lD (aH.refl (λb=>w.heap.size+1<=b) w2) y.prop).trans Jk (λi hi hs=>?_)) (.inl ?_) _
         .have:=(HR2.out.low _ (cK Jo.out) i hs).1
          omega
         .show w.heap.size+1<=rb
          rw[Mi.out];exact bH _
        clear h6 YL tV Jk acz hRy hnew x0 x1 x2 mG HL;gi_wp2;have hrb:=Mi.out;clear Mi;subst hrb;have NW:=ah (Ag.out.upd vC.out (by omega));have Qu:Hid (Below w.heap.size w (w6.setCell ⟨w.heap.size+1,dd,none⟩ (.slice (some ⟨g6,0,none⟩) (l.length+1) c6))):=HB2.out.trans (vC.out.below HB2.out.size (λi hi=>by omega));clear vC Ag HB2 J5 HR2 y0 y1;generalize w6.setCell ⟨w.heap.size+1,dd,none⟩ (.slice (some ⟨g6,0,none⟩) (l.length+1) c6)=Wf at NW Qu HT6⊢;go_wp2
        go_roundg (F.length - (k+1))
        case measure=>rw[iB.out];omega
        case rel=>exact⟨k+1,nn',⟨Wf,Qu.out⟩,_,rfl,by omega,by go_num,rfl,acy,NW,HT6,HAV⟩
       .have UG:Hid (bZ w2 (w.heap.size+2) (w.heap.size+1) vs (jG F D n (k+1)) 0):=by
         show bZ _ _ _ _ _ _;rw[Ob Sz.out HX.out HDX.out hin];exact HR2.out
        have hgo:d<0\/(0<=d/\(n:Int)<=d):=by omega
        rcases hgo with h0|⟨h0,h00⟩
        .go_wp2
         go_roundg (F.length - (k+1))
         case measure=>rw[iB.out];omega
         case rel=>exact⟨k+1,nn',⟨w2,HB2.out⟩,vs,rfl,by omega,by go_num,rfl,acy,Ag,UG,HAV⟩
        .go_wp2
         go_roundg (F.length - (k+1))
         case measure=>rw[iB.out];omega
         case rel=>exact⟨k+1,nn',⟨w2,HB2.out⟩,vs,rfl,by omega,by go_num,rfl,acy,Ag,UG,HAV⟩
     .obtain rfl:k=F.length:=by omega
      clear iB hlt;rw[gV]at HM Lg;have HTB:Hid (T=blocks F D n):=by
       show _=_;rw[HT.out,FQ Sz.out (by omega) (by omega) Lg.out,su]
      have hLL:jG F D n F.length=(List.range n).map (λd:Nat=>fE F D (d:Int)):=by
       unfold jG;rw[gV,Sz.out,gV]
      rw[hLL]at HRW;clear hLL HT;obtain⟨Z,HZ⟩:∃Z,Z=z.val:=⟨_,rfl⟩;have Sm:Hid (Below w.heap.size w Z):=by show Below _ _ _;rw[HZ];exact z.prop
      rw[<-HZ]at HM HRW⊢;clear HZ z;have acA:Hid (∀v∈vs,∀b,v.ownBlock=some b->b<Z.heap.size):=λv hv b hb=>(HRW.out.low v hv b hb).2.1;have aoc:=HRW.out.own.lt;have hvl:vs.length=n:=by rw[HRW.out.len];simp
      go_wp2
      go_loopg [80,14] n (λgk v80 v14 wr=>∃(k:Nat)(A:Option Addr)(c:Nat),gk=n - k/\k<=n/\v80= .int .i64 k/\v14= .slice A (blocks F D k).length c/\Hid (wr.ownsRow Z.heap.size 3 1 (.slice A (blocks F D k).length c) (blocks F D k).length (aR (blocks F D k)))/\Hid (d9 gW 3 encI wr w.heap.size nn (wm F))/\Hid (bZ wr (w.heap.size+2) (w.heap.size+1) vs ((List.range n).map (λd:Nat=>fE F D (d:Int))) k)/\Hid (Below w.heap.size w wr)/\Z.heap.size<=wr.heap.size)
      case atStart=>exact⟨0,none,0,rfl,aV _,rfl,rfl,World.ownsRow_nil _ _ _ _,HM,HRW,Sm,bH _⟩
      case round=>
       obtain⟨k,A,c,eH,hk,rfl,rfl,qW,Ag,Mk,xE,hzw⟩:=hrel;have iB:=ah eH;clear eH HM HRW;by_cases hlt:k<n
       .have hget:((List.range n).map (λd:Nat=>fE F D (d:Int)))[k]?=some (fE F D (k:Int)):=by rw[gG,Ao hlt];rfl
        obtain⟨lA,lc,hvk,hrow⟩:=Mk.out.get (bH k) hget;have hrl:=Hq F D (k:Int);have acB:Hid (∀r∈mQ (fE F D (k:Int)),r∈F.map (·.ref)):=λr hr=>by
         rw[qM,uZ]at hr;obtain⟨i,x,h1,_,rfl⟩:=hr;exact List.mem_map_of_mem (cK h1)
        have HND:Hid ((fE F D (k:Int)).Nodup):=AA Lg.out Sz.out _;have Pb:Hid (blocks F D (k+1)=blocks F D k++((mQ (fE F D (k:Int))).map (jq F)++[-1])):=oJ F D k;have hbl:=BF Sz.out Lg.out k;obtain⟨l,HL⟩:∃l,Hid (l=fE F D (k:Int)):=⟨_,rfl⟩;rw[<-HL.out]at hvk hrow hrl acB HND Pb;have x1:wr.cell? ⟨w.heap.size+1,k,none⟩=some (.slice lA l.length lc):=Mk.out.own.cell hvk;have k0:(k:Int)<(n:Int):=by omega
        have C9:=ah (N9 wr hrow (by omega));have HVK:=ah hvk;clear hrow hvk hget;go_wp2_with (go_at_call 40;refine C9.out.mono ?_;rintro e z3 ⟨rfl,hrow3,hu3⟩;refine Hid.out ?_);refine ah ?_;have hmv:=cK HVK.out;have SE:∀b,(Value.slice lA l.length lc).ownBlock=some b->w.heap.size+2<=b/\b<Z.heap.size:=λb hb=>⟨(Mk.out.low _ hmv b hb).1,acA.out _ hmv b hb⟩;have afG:=ah (Mk.out.changed HVK.out hu3 (λb hb=>hb));have afH:=ah (bX qW.out hu3 (λb hb hs=>by have:=(qW.out.lt b hb).1;have:=(SE b hs).2;omega));have Ml:=ah (Ag.out.upd hu3 (λhs=>by have:=(SE _ hs).1;omega));have acD:Hid (Below w.heap.size w z3):=xE.out.trans (hu3.below xE.out.size (λb hb=>by have:=(SE b hb).1;omega));have hz3:Z.heap.size<=z3.heap.size:=bF hzw hu3.size;rw[Ls HND.out]at hrow3;have hSl:(mQ l).length=l.length:=(FU HND.out).length_eq;have XF:=ah hrow3;clear hrow3 hu3 Mk qW Ag xE HVK hmv C9 HL x1;obtain⟨S,HS⟩:∃S,Hid (S=mQ l):=⟨_,rfl⟩;rw[<-HS.out]at hSl XF acB Pb;have k4:l.length<=4000:=by omega
        go_wp2
        go_loopg [88,14] l.length (λgk v88 v14 wr=>∃(j:Nat)(A:Option Addr)(c:Nat),gk=l.length - j/\j<=l.length/\v88= .int .i64 j/\v14= .slice A (blocks F D k++(S.take j).map (jq F)).length c/\Hid (wr.ownsRow Z.heap.size 3 1 (.slice A (blocks F D k++(S.take j).map (jq F)).length c) (blocks F D k++(S.take j).map (jq F)).length (aR (blocks F D k++(S.take j).map (jq F))))/\Hid (aH (λb=>Z.heap.size<=b) z3 wr))
        case atStart=>
         refine⟨0,A,c,rfl,aV _,rfl,by simp,?_,aH.refl _ _⟩;have h:=afH;simpa using h
        case round=>
         obtain⟨j,A,c,eH,hj,rfl,rfl,qW,HU⟩:=hrel;have Pk:=ah eH;clear eH afH;by_cases hlj:j<l.length
         .obtain⟨r,hr⟩:∃r,S[j]?=some r:=⟨S[j]'(by omega),aT (by omega)⟩
          have hrm:=acB.out r (cK hr);have afI:gW r:=by
           obtain⟨x,hx,rfl⟩:=dU.1 hrm;exact HR.out x hx
          have hMw:=Ml.out.upd HU.out (by omega);have lk:=d9.look AP Tryz.underlying90 hMw (RX wr) afI (Ci afI);rw[ZN hrm]at lk;simp only[Option.getD_some]at lk;have hRw:=bX XF.out HU.out (λb hb hs=>by have:=(SE b hb).2;omega);obtain⟨g,rfl,hBg,hgl,hlc,hcm,hcell⟩:=ny hRw (by omega);have x2:wr.cell? ⟨g,j,none⟩=some (.int .i64 r):=hcell j _ (gQ hr);have j0:(j:Int)<(l.length:Int):=by omega
          have hwz:=HU.out.size;have hrl2:(blocks F D k++(S.take j).map (jq F)).length<=10000:=by simp;omega
          have hzr:Z.heap.size<=wr.heap.size:=by omega
          generalize hRL:blocks F D k++(S.take j).map (jq F)=RL at qW hrl2⊢;have Pm:=ah hRL;clear hRL;have HRJ:=ah hr;clear hRw hcell hMw hr hrm;go_wp2_with (at_builtin;refine iI rfl _ _ 22 rfl 3 ii (.int .i64 0) 1 8 Tryz.underlying22 hii hiz his hib rfl (by decide) Z.heap.size _ _ _ rfl qW.out [.int .i64 (jq F r)] _ rfl rfl (by intro u hu;simp only[dZ]at hu;subst hu;rfl) rfl (by unfold maxLen;omega) (by omega) hzr ?_;intro g6 c6 w6 h1 h2;refine Hid.out ?_);refine ah ?_;have hnb:∀b,(Value.slice A RL.length c).ownBlock=some b->Z.heap.size<=b:=λb e=>(qW.out.lt b e).1;have vC:Hid (aH (λb=>Z.heap.size<=b) wr w6):=((aH.refl _ wr).alloc _).trans (aH.jm h2) (λb _ h=>hnb b h);have hR6:w6.ownsRow Z.heap.size 3 1 (.slice (some ⟨g6,0,none⟩) (blocks F D k++(S.take (j+1)).map (jq F)).length c6) (blocks F D k++(S.take (j+1)).map (jq F)).length (aR (blocks F D k++(S.take (j+1)).map (jq F))):=by
           rw[bS HRJ.out,uf,<-wE,Pm.out];rw[show(RL++List.map (jq F) [r]).length=RL.length+1 by simp,show aR (RL++List.map (jq F) [r])=aR RL++[.int .i64 (jq F r)]from nY _ _];exact h1
          have aa2:(blocks F D k++(S.take (j+1)).map (jq F)).length=RL.length+1:=by
           rw[bS HRJ.out,uf,<-wE,Pm.out];simp
          have II:=ah hR6;have HL6:=ah aa2;clear hR6 aa2 h1 h2 hnb lk x2;go_wp2
          go_roundg (l.length - (j+1))
          case measure=>rw[Pk.out];omega
          case rel=>exact⟨j+1,_,_,rfl,by omega,by go_num,by rw[HL6.out],II,HU.out.trans vC.out (λb _ h=>h)⟩
         .obtain rfl:j=l.length:=by omega
          have hST:S.take l.length=S:=by rw[<-hSl,gV]
          rw[hST]at qW;rw[hST];clear hST Pk hlj;have hwz:=HU.out.size;have hrl2:(blocks F D k++S.map (jq F)).length<=10000:=by simp;omega
          have hzr:Z.heap.size<=wr.heap.size:=by omega
          have afK:=ah (afG.out.upd HU.out (by omega) (λv hv b hb hs=>by have:=acA.out v hv b hb;omega));have HMW:=ah (Ml.out.upd HU.out (by omega));have acE:Hid (Below w.heap.size w wr):=acD.out.trans (HU.out.below acD.out.size (λb hb=>by omega));rw[<-wE]at Pb;generalize blocks F D k++S.map (jq F)=RL at qW hrl2 Pb⊢;clear XF afG Ml acD HU;go_wp2_with (at_builtin;refine iI rfl _ _ 22 rfl 3 ii (.int .i64 0) 1 8 Tryz.underlying22 hii hiz his hib rfl (by decide) Z.heap.size _ _ _ rfl qW.out [.int .i64 (-1)] _ rfl rfl (by intro u hu;simp only[dZ]at hu;subst hu;rfl) rfl (by unfold maxLen;omega) (by omega) hzr ?_;intro g6 c6 w6 h1 h2;refine Hid.out ?_);refine ah ?_;have hnb:∀b,(Value.slice A RL.length c).ownBlock=some b->Z.heap.size<=b:=λb e=>(qW.out.lt b e).1;have vC:Hid (aH (λb=>Z.heap.size<=b) wr w6):=((aH.refl _ wr).alloc _).trans (aH.jm h2) (λb _ h=>hnb b h);have hl6:(blocks F D (k+1)).length=RL.length+1:=by rw[Pb.out];simp
          have hR6:w6.ownsRow Z.heap.size 3 1 (.slice (some ⟨g6,0,none⟩) (blocks F D (k+1)).length c6) (blocks F D (k+1)).length (aR (blocks F D (k+1))):=by
           rw[hl6,Pb.out,nY];exact h1
          have II:=ah hR6;have HL6:=ah hl6;have acF:=ah (afK.out.upd vC.out (by omega) (λv hv b hb hs=>by have:=acA.out v hv b hb;omega));have HM6:=ah (HMW.out.upd vC.out (by omega));have YO:Hid (Below w.heap.size w w6):=acE.out.trans (vC.out.below acE.out.size (λb hb=>by omega));have hz6:Z.heap.size<=w6.heap.size:=bF hzr vC.out.size;clear hR6 hl6 h1 h2 hnb vC afK HMW acE;go_wp2
          go_roundg (n - (k+1))
          case measure=>rw[iB.out];omega
          case rel=>exact⟨k+1,_,_,rfl,by omega,by go_num,by rw[HL6.out],II,HM6,acF,YO,hz6⟩
       .obtain rfl:k=n:=by omega
        clear iB hlt Ag Mk;have hT:=HTB.out;subst hT;clear HTB;go_wp2;go_ret;exact⟨_,_,rfl,BD qW.out (λg hg=>by have:=(qW.out.lt g hg).1;have:=Sm.out.size;omega),xE.out⟩
   .have hT:T=[]:=by rw[HT.out];unfold gM;rw[if_neg (λh=>h3 h.2.2.1)]
    subst hT;have q1:((F.length:Int)!=(D.length:Int))=false:=by simp[h1]
    have q2:(u<0)=False:=by simp;omega
    have q3:((2000:Int)<u)=True:=by simp;omega
    clear h1 h2 h3 HT;go_enter Tryz.func16,Tryz.ntmps16;go_wp2;go_ret;exact⟨none,0,rfl,World.ownsRow_nil _ _ _ _,aD _ _⟩
  .have hT:T=[]:=by rw[HT.out];unfold gM;rw[if_neg (λh=>h2 h.2.1)]
   subst hT;have q1:((F.length:Int)!=(D.length:Int))=false:=by simp[h1]
   have q2:(u<0)=True:=by simp;omega
   clear h1 h2 HT;go_enter Tryz.func16,Tryz.ntmps16;go_wp2;go_ret;exact⟨none,0,rfl,World.ownsRow_nil _ _ _ _,aD _ _⟩
 .have hT:T=[]:=by rw[HT.out];unfold gM;rw[if_neg (λh=>h1 h.1)]
  subst hT;have q1:((F.length:Int)!=(D.length:Int))=true:=by simp;omega
  go_enter Tryz.func16,Tryz.ntmps16;go_wp2;go_ret;exact⟨none,0,rfl,World.ownsRow_nil _ _ _ _,aD _ _⟩
end
section
open Go.RowKit Go.Shelf
def Db(lo hi:Nat->Int)(is:List Nat):List Value:=is.flatMap (λi=>[.int .i64 (lo i),.int .i64 (hi i)])
def EG(lo hi:Nat->Int)(n:Nat):List Value:=Db lo hi (List.range n)
theorem nC(lo hi:Nat->Int)(n:Nat):(EG lo hi n).length=n*2:=by
 unfold EG Db;rw[gK (λi:Nat=>[Value.int .i64 (lo i),.int .i64 (hi i)]) 2 (λ_=>rfl),List.length_range]
theorem dR(lo hi:Nat->Int){n i j:Nat}(h:i<n)(hj:j<2):(EG lo hi n)[i*2+j]?=([.int .i64 (lo i),.int .i64 (hi i)]:List Value)[j]?:=
 bG (λi:Nat=>[Value.int .i64 (lo i),.int .i64 (hi i)]) 2 (λ_=>rfl) (List.range n) i j i (Ao h) hj
theorem Oc(lo hi:Nat->Int){n i:Nat}(h:i<n)(l u:Int):((EG lo hi n).set (i*2) (.int .i64 l)).set (i*2+1) (.int .i64 u)=EG (setAt lo i l) (setAt hi i u) n:=by
 apply kX;intro q;rcases iA q (n*2)with hq|hq
 .have hr:=dR (setAt lo i l) (setAt hi i u) (n:=n) (i:=q/2) (j:=q % 2) (by omega) (by omega)
  have ho:=dR lo hi (n:=n) (i:=q/2) (j:=q % 2) (by omega) (by omega);rw[show q/2*2+q % 2=q by omega]at hr ho;rw[hr,jI,jI];by_cases e1:i*2+1=q
  .rw[if_pos e1,if_pos (by simp[nC];omega),show q/2=i by omega,show q % 2=1 by omega]
   simp[eP]
  .rw[if_neg e1]
   by_cases e2:i*2=q
   .rw[if_pos e2,if_pos (by rw[nC];omega),show q/2=i by omega,show q % 2=0 by omega]
    simp[eP]
   .rw[if_neg e2,ho,eT _ _ (by omega),eT _ _ (by omega)]
 .rw[lY (by simp[nC];omega),lY (by rw[nC];exact hq)]
def Dc(t:TypeId):Prop:=t=175\/t=177\/t=222
structure SX where
 B:Nat
 sb:Nat
 bb:Nat
 rb:Nat
 ab:Nat
 n:Nat
 vb:List Value
 va:List Value
 Lb:List (List Int)
 La:List (List Int)
def SSet(X:SX)(V:World)(k:Nat):Prop:=X.B<=k/\∃(cs:Array Value)(t:TypeId)(fz:Nat×Nat),V.heap[k]?=some (.cells cs t fz)/\Dc t/\(k=X.sb\/k=X.bb\/t=222)
def pV(X:SX)(V V':World):Prop:=aH (SSet X V) V V'
theorem pV.trans{X:SX}{a b c:World}(h:pV X a b)(k:pV X b c):pV X a c:=by
 refine aH.trans h k (λi hi ⟨h1,cs,t,fz,h2,h3⟩=>?_);by_cases hz:SSet X a i
 .exact hz
 .rw[h.block i hi hz]at h2
  exact⟨h1,cs,t,fz,h2,h3⟩
theorem pV.of_below{X:SX}{V V':World}(h:Below V.heap.size V V'):pV X V V':=⟨h.os,h.tape,h.output,h.size,λk hk _=>h.block k hk⟩
theorem pV.xU{S:Nat->Prop}{X:SX}{V V':World}(h:aH S V V')(hS:∀i,S i->i<V.heap.size->SSet X V i):pV X V V':=h.mono (λi hi hs=>hS i hs hi)
theorem BG{X:SX}{V:World}{k:Nat}{cs:Array Value}{t:TypeId}{fz:Nat×Nat}(h:V.heap[k]?=some (.cells cs t fz))(ht:¬Dc t):¬SSet X V k:=λ⟨_,cs',t',fz',h1,h2,_⟩=>by
 rw[h]at h1;cases h1
 exact ht h2
theorem Own.EZ{X:SX}{w w':World}{t:TypeId}{b:Nat}{cs:List Value}(h:Own w t b cs)(hm:pV X w w')(ht:¬Dc t):Own w' t b cs:=by
 obtain⟨tl,h⟩:=h;exact⟨tl,hm.keep h (BG h ht)⟩
theorem Own.afO{X:SX}{w w':World}{t:TypeId}{b:Nat}{cs:List Value}(h:Own w t b cs)(hm:pV X w w')(h1:b≠X.sb)(h2:b≠X.bb)(ht:t≠222):Own w' t b cs:=by
 obtain⟨tl,h⟩:=h;refine⟨tl,hm.keep h (λ⟨_,cs',t',fz',h3,_,h4⟩=>?_)⟩;rw[h]at h3;cases h3
 rcases h4 with h4|h4|h4
 .exact h1 h4
 .exact h2 h4
 .exact ht h4
theorem sQ{X:SX}{B':Nat}{w w':World}{e:TypeId}{size n:Nat}{v:Value}{xs:List Value}(h:w.ownsRow B' e size v n xs)(hm:pV X w w')(ht:¬Dc e):w'.ownsRow B' e size v n xs:=by
 refine⟨h.1,?_⟩;rcases h.2 with h0|⟨g,cap,cur,rfl,hB,hg,r⟩
 .exact .inl h0
 .exact .inr ⟨g,cap,cur,rfl,hB,hm.keep hg (BG hg ht),r⟩
theorem Own.sset{X:SX}{w:World}{t:TypeId}{b:Nat}{cs:List Value}(h:Own w t b cs)(hB:X.B<=b)(ht:Dc t)(hx:b=X.sb\/b=X.bb\/t=222):SSet X w b:=by
 obtain⟨tl,h⟩:=h;exact⟨hB,_,_,_,h,ht,hx⟩
theorem Own.ne{w:World}{t t':TypeId}{b b':Nat}{cs cs':List Value}(h:Own w t b cs)(h':Own w t' b' cs')(ht:t≠t'):b≠b':=by
 rintro rfl;obtain⟨tl,h⟩:=h;obtain⟨tl',h'⟩:=h';rw[h]at h';injection h' with h'
 injection h' with _ h' _
 exact ht h'
theorem Lu{X:SX}{B':Nat}{w:World}{size n:Nat}{v:Value}{xs:List Value}(h:w.ownsRow B' 222 size v n xs)(hB:X.B<=B'){k:Nat}(hk:v.ownBlock=some k):SSet X w k:=by
 rcases h.2 with⟨rfl,_⟩|⟨g,cap,cur,rfl,h1,h2,_⟩
 .cases hk
 .simp only[Value.ownBlock,Option.some.injEq]at hk
  subst hk;exact⟨bF hB h1,_,_,_,h2,.inr (.inr rfl),.inr (.inr rfl)⟩
theorem bZ.EZ{X:SX}{B':Nat}{w w':World}{rb:Nat}{vs:List Value}{L:List (List Int)}(h:bZ w B' rb vs L 0)(hm:pV X w w'):bZ w' B' rb vs L 0:=by
 refine h.upd hm ?_ (λv hv b hb=>?_)
 .obtain⟨tl,h1⟩:=h.own
  exact BG h1 (by unfold Dc;decide)
 .obtain⟨i,hi⟩:=jV.1 hv
  have hl:i<L.length:=by rw[<-h.len];exact(aZ.1 hi).1
  rcases(h.row i v _ (aV _) hi (aT hl)).2 with⟨rfl,_⟩|⟨g,cap,cur,rfl,_,h2,_⟩
  .cases hb
  .simp only[Value.ownBlock,Option.some.injEq]at hb
   subst hb;exact BG h2 (by unfold Dc;decide)
structure aP(w:World)(X:SX)(lo hi:Nat->Int)(A:Option Addr)(oc:Nat)(H:List (Nat×Int×Int)):Prop where
 uQ:bZ w X.B X.rb X.vb X.Lb 0
 wB:bZ w X.B X.ab X.va X.La 0
 Hr:X.Lb.length=X.n
 Ht:X.La.length=X.n
 box:Own w 175 X.sb [.slice (some ⟨X.bb,0,none⟩) X.n X.n,.slice (some ⟨X.rb,0,none⟩) X.n X.n,.slice (some ⟨X.ab,0,none⟩) X.n X.n,.slice A H.length oc]
 bnd:Own w 177 X.bb (EG lo hi X.n)
 old:w.ownsRow X.B 222 3 (.slice A H.length oc) H.length (H.flatMap oO)
 low:X.B<=X.sb/\X.B<=X.bb
theorem aP.below{w w':World}{X:SX}{lo hi:Nat->Int}{A:Option Addr}{oc:Nat}{H:List (Nat×Int×Int)}(h:aP w X lo hi A oc H)(hb:Below w.heap.size w w'):aP w' X lo hi A oc H:=
 ⟨h.uQ.below hb,h.wB.below hb,h.Hr,h.Ht,h.box.below hb,h.bnd.below hb,dM h.old hb,h.low⟩
theorem aP.XG{w:World}{X:SX}{lo hi:Nat->Int}{A:Option Addr}{oc:Nat}{H:List (Nat×Int×Int)}(h:aP w X lo hi A oc H)(m:Nat){i:Nat}(hi':i<X.n)(l u:Int):
 aP (((w.drewN m).setCell ⟨X.bb,i*2,none⟩ (.int .i64 l)).setCell ⟨X.bb,i*2+1,none⟩ (.int .i64 u)) X (setAt lo i l) (setAt hi i u) A oc H/\pV X w (((w.drewN m).setCell ⟨X.bb,i*2,none⟩ (.int .i64 l)).setCell ⟨X.bb,i*2+1,none⟩ (.int .i64 u)):=by
 have hbd:=h.bnd;have hbx:=h.box;have hud:aH (λ_=>False) w (w.drewN m):=(aH.refl _ _).drewN m;have UH:=((hbd.keep hud (λh=>h)).set (i:=i*2) (by rw[nC];omega) (.int .i64 l)).set (i:=i*2+1) (by rw[List.length_set,nC];omega) (.int .i64 u);rw[Oc lo hi hi']at UH;have QT:aH (λb=>b=X.bb) w (((w.drewN m).setCell ⟨X.bb,i*2,none⟩ (.int .i64 l)).setCell ⟨X.bb,i*2+1,none⟩ (.int .i64 u)):=
  (((aH.refl (λb=>b=X.bb) w).drewN m).setCell (p:=⟨X.bb,i*2,none⟩) (.inl rfl) _).setCell (p:=⟨X.bb,i*2+1,none⟩) (.inl rfl) _
 have Od:pV X w (((w.drewN m).setCell ⟨X.bb,i*2,none⟩ (.int .i64 l)).setCell ⟨X.bb,i*2+1,none⟩ (.int .i64 u)):=
  pV.xU QT (λk hk _=>by subst hk;exact hbd.sset h.low.2 (.inr (.inl rfl)) (.inr (.inl rfl)))
 refine⟨⟨h.uQ.EZ Od,h.wB.EZ Od,h.Hr,h.Ht,hbx.keep QT (λe=>hbx.ne hbd (by decide) e),UH,bX h.old QT (λb hb e=>?_),h.low⟩,Od⟩;subst e;obtain⟨tl,hbd⟩:=hbd;exact cZ h.old hbd (by decide) hb
theorem QU{lo hi lo' hi':Nat->Int}{n:Nat}(h:∀i,i<n->lo i=lo' i/\hi i=hi' i):EG lo hi n=EG lo' hi' n:=by
 have key:∀l:List Nat,(∀i∈l,i<n)->Db lo hi l=Db lo' hi' l:=λl hl=>by
  unfold Db;induction l with
  |nil=>rfl
  |cons i l ih=>rw[qR,qR,ih (λj hj=>hl j (kT _ hj)),(h i (hl i (by simp))).1,(h i (hl i (by simp))).2]
 exact key _ (λi hi=>List.mem_range.1 hi)
theorem aP.congr{w:World}{X:SX}{lo hi lo' hi':Nat->Int}{A:Option Addr}{oc:Nat}{H:List (Nat×Int×Int)}(h:aP w X lo hi A oc H)(e:∀i,i<X.n->lo i=lo' i/\hi i=hi' i):aP w X lo' hi' A oc H:=
 ⟨h.uQ,h.wB,h.Hr,h.Ht,h.box,by rw[<-QU e];exact h.bnd,h.old,h.low⟩
theorem XH(H:List (Nat×Int×Int)):∀u∈H.flatMap oO,u.oneCell'=true:=by
 intro u hu;obtain⟨x,_,hx⟩:=Aj.1 hu;simp only[oO,d_,iW,or_false]at hx;rcases hx with rfl|rfl|rfl<;>rfl
theorem aP.acG{w W:World}{X:SX}{lo hi:Nat->Int}{A:Option Addr}{oc:Nat}{H:List (Nat×Int×Int)}(h:aP w X lo hi A oc H){i:Nat}{v v':Value}{l':List Int}(hv:X.vb[i]?=some v)(hu:aH (λb=>v.ownBlock=some b) w W)
 (hrow:W.ownsRow X.B 3 1 v' l'.length (aR l'))(tV:v'.ownBlock=v.ownBlock\/∀b,v'.ownBlock=some b->w.heap.size<=b)(hne:X.rb≠X.ab)(hsep:∀v∈X.vb,∀v'∈X.va,∀b,v.ownBlock=some b->v'.ownBlock≠some b):
 aP (W.setCell ⟨X.rb,i,none⟩ v') {X with vb:=X.vb.set i v',Lb:=X.Lb.set i l'} lo hi A oc H/\aH (λb=>v.ownBlock=some b\/b=X.rb) w (W.setCell ⟨X.rb,i,none⟩ v')/\
  (∀u∈X.vb.set i v',∀u'∈X.va,∀b,u.ownBlock=some b->u'.ownBlock≠some b):=by
 have hi:i<X.vb.length:=(aZ.1 hv).1;have hl:=aT (l:=X.Lb) (i:=i) (by rw[<-h.uQ.len];exact hi);have hr0:=h.uQ.row i v _ (aV _) hv hl;have hmv:=cK hv;have hS:∀{t:TypeId}{b:Nat}{cs:List Value},Own w t b cs->t≠3->¬(v.ownBlock=some b):=λho ht=>by
  obtain⟨tl,ho⟩:=ho;exact cZ hr0 ho ht
 have hu2:aH (λb=>v.ownBlock=some b\/b=X.rb) w (W.setCell ⟨X.rb,i,none⟩ v'):=(hu.mono (λ_ _ h=>.inl h)).setCell (p:=⟨X.rb,i,none⟩) (.inl (.inr rfl)) v';have hk:∀{t:TypeId}{b:Nat}{cs:List Value},Own w t b cs->t≠3->b≠X.rb->Own (W.setCell ⟨X.rb,i,none⟩ v') t b cs:=λho ht hb=>ho.keep hu2 (λe=>by
  rcases e with e|e
  .exact hS ho ht e
  .exact hb e)
 have hother:∀u∈X.va,∀b,u.ownBlock=some b->v.ownBlock≠some b/\v'.ownBlock≠some b/\b≠X.rb:=λu hu' b hb=>by
  have h1:=h.wB.low u hu' b hb;have h2:v.ownBlock≠some b:=λe=>hsep v hmv u hu' b e hb;refine⟨h2,λe=>?_,λe=>?_⟩
  .rcases tV with e2|e2
   .rw[e2]at e;exact h2 e
   .have:=e2 b e;omega
  .subst e
   obtain⟨j,hj⟩:=jV.1 hu';have hlj:j<X.La.length:=by rw[<-h.wB.len];exact(aZ.1 hj).1
   obtain⟨tl,ho⟩:=h.uQ.own;exact cZ (h.wB.row j u _ (aV _) hj (aT hlj)) ho (by decide) hb
 have ht:=h.uQ.turned hv hu (λb hb=>.inl hb) hrow tV;have hq:bZ (W.setCell ⟨X.rb,i,none⟩ v') X.B X.ab X.va X.La 0:=h.wB.upd hu2 (λe=>by
  rcases e with e|e
  .exact hS h.wB.own (by decide) e
  .exact hne e.symm) (λu hu' b hb e=>by
  rcases e with e|e
  .exact(hother u hu' b hb).1 e
  .exact(hother u hu' b hb).2.2 e)
 have hold:(W.setCell ⟨X.rb,i,none⟩ v').ownsRow X.B 222 3 (.slice A H.length oc) H.length (H.flatMap oO):=bX h.old hu2 (λb hb e=>by
  rcases e with e|e
  .rcases hr0.2 with⟨rfl,_⟩|⟨g,cap,cur,rfl,_,hg,_⟩
   .cases e
   .simp only[Value.ownBlock,Option.some.injEq]at e
    subst e;exact cZ h.old hg (by decide) hb
  .subst e
   obtain⟨tl,ho⟩:=h.uQ.own;exact cZ h.old ho (by decide) hb)
 refine⟨⟨ht,hq,by simpa using h.Hr,h.Ht,hk h.box (by decide) (λe=>h.box.ne h.uQ.own (by decide) e),hk h.bnd (by decide) (λe=>h.bnd.ne h.uQ.own (by decide) e),hold,h.low⟩,hu2,λu hu1 u' ZQ b hb=>?_⟩;rcases List.mem_or_eq_of_mem_set hu1 with h2|rfl
 .exact hsep u h2 u' ZQ b hb
 .exactλe=>(hother u' ZQ b e).2.1 hb
theorem aP.acH{w W:World}{X:SX}{lo hi:Nat->Int}{A:Option Addr}{oc:Nat}{H:List (Nat×Int×Int)}(h:aP w X lo hi A oc H){i:Nat}{v v':Value}{l':List Int}(hv:X.va[i]?=some v)(hu:aH (λb=>v.ownBlock=some b) w W)
 (hrow:W.ownsRow X.B 3 1 v' l'.length (aR l'))(tV:v'.ownBlock=v.ownBlock\/∀b,v'.ownBlock=some b->w.heap.size<=b)(hne:X.rb≠X.ab)(hsep:∀v∈X.vb,∀v'∈X.va,∀b,v.ownBlock=some b->v'.ownBlock≠some b):
 aP (W.setCell ⟨X.ab,i,none⟩ v') {X with va:=X.va.set i v',La:=X.La.set i l'} lo hi A oc H/\aH (λb=>v.ownBlock=some b\/b=X.ab) w (W.setCell ⟨X.ab,i,none⟩ v')/\
  (∀u∈X.vb,∀u'∈X.va.set i v',∀b,u.ownBlock=some b->u'.ownBlock≠some b):=by
 have hi:i<X.va.length:=(aZ.1 hv).1;have hl:=aT (l:=X.La) (i:=i) (by rw[<-h.wB.len];exact hi);have hr0:=h.wB.row i v _ (aV _) hv hl;have hmv:=cK hv;have hS:∀{t:TypeId}{b:Nat}{cs:List Value},Own w t b cs->t≠3->¬(v.ownBlock=some b):=λho ht=>by
  obtain⟨tl,ho⟩:=ho;exact cZ hr0 ho ht
 have hu2:aH (λb=>v.ownBlock=some b\/b=X.ab) w (W.setCell ⟨X.ab,i,none⟩ v'):=(hu.mono (λ_ _ h=>.inl h)).setCell (p:=⟨X.ab,i,none⟩) (.inl (.inr rfl)) v';have hk:∀{t:TypeId}{b:Nat}{cs:List Value},Own w t b cs->t≠3->b≠X.ab->Own (W.setCell ⟨X.ab,i,none⟩ v') t b cs:=λho ht hb=>ho.keep hu2 (λe=>by
  rcases e with e|e
  .exact hS ho ht e
  .exact hb e)
 have hother:∀u∈X.vb,∀b,u.ownBlock=some b->v.ownBlock≠some b/\v'.ownBlock≠some b/\b≠X.ab:=λu hu' b hb=>by
  have h1:=h.uQ.low u hu' b hb;have h2:v.ownBlock≠some b:=λe=>hsep u hu' v hmv b hb e;refine⟨h2,λe=>?_,λe=>?_⟩
  .rcases tV with e2|e2
   .rw[e2]at e;exact h2 e
   .have:=e2 b e;omega
  .subst e
   obtain⟨j,hj⟩:=jV.1 hu';have hlj:j<X.Lb.length:=by rw[<-h.uQ.len];exact(aZ.1 hj).1
   obtain⟨tl,ho⟩:=h.wB.own;exact cZ (h.uQ.row j u _ (aV _) hj (aT hlj)) ho (by decide) hb
 have ht:=h.wB.turned hv hu (λb hb=>.inl hb) hrow tV;have hq:bZ (W.setCell ⟨X.ab,i,none⟩ v') X.B X.rb X.vb X.Lb 0:=h.uQ.upd hu2 (λe=>by
  rcases e with e|e
  .exact hS h.uQ.own (by decide) e
  .exact hne e) (λu hu' b hb e=>by
  rcases e with e|e
  .exact(hother u hu' b hb).1 e
  .exact(hother u hu' b hb).2.2 e)
 have hold:(W.setCell ⟨X.ab,i,none⟩ v').ownsRow X.B 222 3 (.slice A H.length oc) H.length (H.flatMap oO):=bX h.old hu2 (λb hb e=>by
  rcases e with e|e
  .rcases hr0.2 with⟨rfl,_⟩|⟨g,cap,cur,rfl,_,hg,_⟩
   .cases e
   .simp only[Value.ownBlock,Option.some.injEq]at e
    subst e;exact cZ h.old hg (by decide) hb
  .subst e
   obtain⟨tl,ho⟩:=h.wB.own;exact cZ h.old ho (by decide) hb)
 refine⟨⟨hq,ht,h.Hr,by simpa using h.Ht,hk h.box (by decide) (λe=>h.box.ne h.wB.own (by decide) e),hk h.bnd (by decide) (λe=>h.bnd.ne h.wB.own (by decide) e),hold,h.low⟩,hu2,λu hu1 u' ZQ b hb=>?_⟩;rcases List.mem_or_eq_of_mem_set ZQ with h2|rfl
 .exact hsep u hu1 u' h2 b hb
 .exact(hother u hu1 b hb).2.1
def BH(Z:World)(B:Nat)(e:TypeId)(size n:Nat)(v:Value)(xs:List Value):bO:=
 ⟨λu=>∃g c,u= .slice (some ⟨g,0,none⟩) n c,λu z=>z.ownsRow B e size u n xs/\(u.ownBlock=v.ownBlock\/∀b,u.ownBlock=some b->Z.heap.size<=b)⟩
theorem tX(Z:World)(B:Nat)(e:TypeId)(size n:Nat)(v:Value)(xs:List Value):(BH Z B e size n v xs).Keeps:=λ_ _ _ h hb=>⟨dM h.1 hb,h.2⟩
def nZ(W0:World)(e:TypeId)(cs:Array Value):bO:=
 ⟨λv=>∃b,W0.heap.size<=b/\v= .slice (some ⟨b,0,none⟩) 1 1,λv z=>∀b,v= .slice (some ⟨b,0,none⟩) 1 1->W0.heap.size<=b/\z.heap[b]?=some (.cells cs e (0,0))⟩
theorem pW{ops:Array Oper}(W0:World)(e:TypeId)(cs:Array Value)(S:Nat->Prop)(f i:Nat)(hS:∀k,S k->k<W0.heap.size):zR ops (aH S) f i (nZ W0 e cs):=by
 refine⟨λv z z' h hb b hv=>?_,λ_ _ v z z' h hu b hv=>?_⟩
 .obtain⟨h1,h2⟩:=h b hv
  exact⟨h1,(hb.block b (av h2)).trans h2⟩
 .obtain⟨h1,h2⟩:=h b hv
  exact⟨h1,hu.keep h2 (λhs=>by have:=hS _ hs;omega)⟩
theorem Df(Z:World)(S:Nat->Prop):Turns (λz=>Below Z.heap.size Z z) (λz=>aH S Z z) (λz z'=>aH S z z') where
 sub:=λ_ h=>⟨h.os,h.tape,h.output,h.size,λk hk _=>h.block k hk⟩
 b0:=λ_ _ h hb=>ay h hb
 b1:=λ_ _ h hb=>lD h hb
 t:=λ_ _ h hu=>aH.trans (S:=S) ⟨h.os,h.tape,h.output,h.size,λk hk _=>h.block k hk⟩ hu (λ_ _ h=>h)
theorem tY{P:Program}{Z z:World}{o:Oper}{ρ:Operand->Value}(s x:Operand)(t:TypeId)(hop:o.op=Op.call {callee:=Callee.builtin Builtin.append,args:=#[s,x],argTypes:=#[t,t]})
 (base:Nat)(e:TypeId)(i:TypeInfo)(z0:Value)(size bytes:Nat)(ht:P.underlying t=some (.slice e))(hi:P.info? e=some i)(hz:i.zero=some z0)(hsize:i.size=size)(hby:i.bytes=bytes)(hzs:z0.cells.size=size)(hsz:0<size)
 (v:Value)(n:Nat)(xs:List Value)(hs:ρ s=v)(hown:z.ownsRow base e size v n xs)(bx:Nat)(cs:Array Value)(tx:TypeId)(fr:Nat×Nat)(hx:ρ x= .slice (some ⟨bx,0,none⟩) 1 1)(hbx:z.heap[bx]?=some (.cells cs tx fr))(hl:cs.size=size)(h1:∀u∈cs.toList,u.oneCell'=true)
 (h63:n+1<=maxLen)(jw:(n+1)*bytes<=140737488355328)(hbase:base<=z.heap.size)(hZ:Z.heap.size<=z.heap.size):
 nR (aH (λb=>v.ownBlock=some b)) z (BH Z base e size (n+1) v (xs++cs.toList)) ((execOp ρ o).run P z):=by
 obtain⟨g,cap,w',hrun,r1,r2,r3,_⟩:=run_append_lies (P:=P) z t o.type base e i z0 size bytes ht hi hz hsize hby hzs hsz v n xs hown ⟨bx,0,none⟩ 1 1 cs.toList (by simp[hl]) (World.news_of_block hbx) h1 (by omega) h63 jw hbase _ rfl;simp only[execOp,hop,resolve,invoke,builtin,Sem.run_bind,Sem.run_pure,Result.andThen_ok,List.map_toArray,l6,List.map_nil,hs,hx,hrun];refine⟨⟨g,cap,rfl⟩,⟨r1,?_⟩,aH.jm r2⟩;rcases r3 with r3|r3
 .exact .inl (by rw[r3];rfl)
 .exact .inr (λb hb=>by simp only[Value.ownBlock,Option.some.injEq]at hb;omega)
end
section
open Go.RowKit Go.Shelf
def ZR(X:SX)(lo hi:Nat->Int)(H:List (Nat×Int×Int))(v:Value)(w:World)(e:Ending)(w':World):Prop:=
 ∃(A:Option Addr)(oc:Nat),e= .returned v/\aP w' X lo hi A oc H/\pV X w w'
theorem afP(a b c d:Int)(w:World):(Op.equalIn 10000 177 (.agg #[.int .i64 a,.int .i64 b]) (.agg #[.int .i64 c,.int .i64 d])).run Tryz.prog w= .ok (decide (a=c)&&decide (b=d)) w:=by
 have u3:=Tryz.underlying3;have hS:Tryz.prog.underlying 177=some (.struct (Tryz.prog.fieldsOf 177)):=by kernel_rfl
 rw[show(10000:Nat)=9999+1 from rfl,run_equalIn_agg w 9999 177 _ _ hS (by kernel_rfl)];simp only[Program.fieldsOf,Tryz.underlying177];go_simp;by_cases h1:a=c<;>by_cases h2:b=d<;>simp[h1,h2]
attribute [local go_sem] jS Ga stillUpon bK
theorem Lv(X:SX)(lo hi:Nat->Int)(A:Option Addr)(oc:Nat)(H:List (Nat×Int×Int))(a:Nat)(l u:Int)(w:World)(hS:aP w X lo hi A oc H)(ha:a<X.n)(hH:H.length<=1000000):
 Calls Tryz.prog 141 #[.pointer (some ⟨X.sb,0,none⟩),.int .i64 a,.agg #[.int .i64 l,.int .i64 u]] w
  (ZR X (if lo a=l/\hi a=u then lo else setAt lo a l) (if lo a=l/\hi a=u then hi else setAt hi a u) (if lo a=l/\hi a=u then H else H++[(a,lo a,hi a)]) (.bool (!decide (lo a=l/\hi a=u))) w):=by
 by_cases he:lo a=l/\hi a=u
 .simp only[if_pos he,decide_eq_true he,Bool.not_true]
  have HE:=ah he;clear he;have HS:=ah hS;clear hS;go_enter Tryz.func141,Tryz.ntmps141;go_upto_region 1 with(fail)
  generalize hW0:World.alloc _ _=W0;obtain⟨HB,hh0⟩:=bx1 hW0;have HX0:Hid (Own W0 177 w.heap.size [.int .i64 l,.int .i64 u]):=⟨[],by rw[b_];exact hh0⟩;have yR:=ah (HS.out.below HB.out);clear hh0 hW0 HS;have b0:∀z:Bl W0,z.val.cell? ⟨w.heap.size,0,none⟩=some (.int .i64 l):=λz=>(HX0.out.below z.prop).cell rfl;have b1:∀z:Bl W0,z.val.cell? ⟨w.heap.size,1,none⟩=some (.int .i64 u):=λz=>(HX0.out.below z.prop).cell rfl;have s0:∀z:Bl W0,z.val.cell? ⟨X.sb,0,none⟩=some (.slice (some ⟨X.bb,0,none⟩) X.n X.n):=λz=>(yR.out.below z.prop).box.cell rfl;have s3:∀z:Bl W0,z.val.cell? ⟨X.sb,3,none⟩=some (.slice A H.length oc):=λz=>(yR.out.below z.prop).box.cell rfl;have d0:∀z:Bl W0,z.val.cell? ⟨X.bb,a*2,none⟩=some (.int .i64 (lo a)):=λz=>(yR.out.below z.prop).bnd.cell (dR lo hi ha (j:=0) (by omega));have d1:∀z:Bl W0,z.val.cell? ⟨X.bb,a*2+1,none⟩=some (.int .i64 (hi a)):=λz=>(yR.out.below z.prop).bnd.cell (dR lo hi ha (j:=1) (by omega));have ha0:(a:Int)<(X.n:Int):=by omega
  simp only[HE.out.1]at d0;simp only[HE.out.2]at d1;change Code.wp _ _ _ _ (Bl.val (⟨W0,aD _ _⟩:Bl W0));generalize(⟨W0,aD _ _⟩:Bl W0)=z0;refine aI (by kernel_rfl) (by kernel_rfl) ?_;repeat(go_big_quiet_step (fail))
  refine aS ?_;rintro _ ⟨z1,rfl⟩;go_wp2;go_ret;exact⟨A,oc,rfl,yR.out.below z1.prop,pV.of_below (ay HB.out z1.prop)⟩
 .simp only[if_neg he,decide_eq_false he,Bool.not_false]
  have q1:∀w:World,(Op.equalIn 10000 177 (.agg #[.int .i64 (lo a),.int .i64 (hi a)]) (.agg #[.int .i64 l,.int .i64 u])).run Tryz.prog w= .ok false w:=λw=>by
   rw[afP];congr 1;cases h1:decide (lo a=l)<;>cases h2:decide (hi a=u)<;>simp_all
  have HE:=ah he;clear he;have HS:=ah hS;clear hS;go_enter Tryz.func141,Tryz.ntmps141;go_upto_region 1 with(fail)
  generalize hW0:World.alloc _ _=W0;obtain⟨HB,hh0⟩:=bx1 hW0;have HX0:Hid (Own W0 177 w.heap.size [.int .i64 l,.int .i64 u]):=⟨[],by rw[b_];exact hh0⟩;have yR:=ah (HS.out.below HB.out);clear hh0 hW0 HS;have b0:∀z:Bl W0,z.val.cell? ⟨w.heap.size,0,none⟩=some (.int .i64 l):=λz=>(HX0.out.below z.prop).cell rfl;have b1:∀z:Bl W0,z.val.cell? ⟨w.heap.size,1,none⟩=some (.int .i64 u):=λz=>(HX0.out.below z.prop).cell rfl;have s0:∀z:Bl W0,z.val.cell? ⟨X.sb,0,none⟩=some (.slice (some ⟨X.bb,0,none⟩) X.n X.n):=λz=>(yR.out.below z.prop).box.cell rfl;have s3:∀z:Bl W0,z.val.cell? ⟨X.sb,3,none⟩=some (.slice A H.length oc):=λz=>(yR.out.below z.prop).box.cell rfl;have d0:∀z:Bl W0,z.val.cell? ⟨X.bb,a*2,none⟩=some (.int .i64 (lo a)):=λz=>(yR.out.below z.prop).bnd.cell (dR lo hi ha (j:=0) (by omega));have d1:∀z:Bl W0,z.val.cell? ⟨X.bb,a*2+1,none⟩=some (.int .i64 (hi a)):=λz=>(yR.out.below z.prop).bnd.cell (dR lo hi ha (j:=1) (by omega));have ha0:(a:Int)<(X.n:Int):=by omega
  change Code.wp _ _ _ _ (Bl.val (⟨W0,aD _ _⟩:Bl W0));generalize(⟨W0,aD _ _⟩:Bl W0)=z0;refine aI (by kernel_rfl) (by kernel_rfl) ?_;repeat(go_big_quiet_step (fail))
  refine aS ?_;rintro _ ⟨z1,rfl⟩;have mE:Hid (Below w.heap.size w z1.val):=ay HB.out z1.prop;have vH:=ah (yR.out.below z1.prop);have oU:=ah (HX0.out.below z1.prop);clear q1 b0 b1 s0 s3 d0 d1 yR HX0 HB;go_upto_region 3 with(fail)
  generalize z1.val=Z at mE vH oU⊢;clear z0 z1;obtain⟨S,hSd⟩:∃S:Nat->Prop,S=λb=>(Value.slice A H.length oc).ownBlock=some b:=⟨_,rfl⟩;have tT:Hid (∀(t:TypeId)(b:Nat)(cs:List Value),Own Z t b cs->t≠222->¬S b):=λt b cs ho ht hs=>by
   obtain⟨tl,ho⟩:=ho;rw[hSd]at hs;exact cZ vH.out.old ho ht hs
  have HSL:Hid (∀b,S b->SSet X Z b/\b<Z.heap.size):=λb hs=>by
   rw[hSd]at hs;exact⟨Lu vH.out.old (bH _) hs,(vH.out.old.lt b hs).2⟩
  have x0:∀y:Wl (λz=>aH S Z z),y.val.cell? ⟨X.sb,0,none⟩=some (.slice (some ⟨X.bb,0,none⟩) X.n X.n):=λy=>(vH.out.box.keep y.prop (tT.out _ _ _ vH.out.box (by decide))).cell rfl;have x3:∀y:Wl (λz=>aH S Z z),y.val.cell? ⟨X.sb,3,none⟩=some (.slice A H.length oc):=λy=>(vH.out.box.keep y.prop (tT.out _ _ _ vH.out.box (by decide))).cell rfl;have d0:∀y:Wl (λz=>aH S Z z),y.val.cell? ⟨X.bb,a*2,none⟩=some (.int .i64 (lo a)):=λy=>(vH.out.bnd.keep y.prop (tT.out _ _ _ vH.out.bnd (by decide))).cell (dR lo hi ha (j:=0) (by omega));have d1:∀y:Wl (λz=>aH S Z z),y.val.cell? ⟨X.bb,a*2+1,none⟩=some (.int .i64 (hi a)):=λy=>(vH.out.bnd.keep y.prop (tT.out _ _ _ vH.out.bnd (by decide))).cell (dR lo hi ha (j:=1) (by omega));obtain⟨ii,hii,hiz,his,hib⟩:=info_parts' (P:=Tryz.prog) (t:=222) (z:=some (.agg #[.int .i64 0,.int .i64 0,.int .i64 0])) (s:=3) (b:=24) (by kernel_rfl)
  haveI:Inhabited (Wl (λz=>aH S Z z)):=⟨⟨Z,aH.refl _ _⟩⟩
  refine ru (s:=(⟨Z,aD _ _⟩:Wl (λz=>Below Z.heap.size Z z))) (C1:=λz=>aH S Z z) (T:=aH S) (f:=15) 16 (λi=>match i with
   |14=>some (nZ Z 222 #[.int .i64 a,.int .i64 (lo a),.int .i64 (hi a)])
   |15=>some (BH Z X.B 222 3 (H.length+1) (.slice A H.length oc) (H.flatMap oO++[.int .i64 a,.int .i64 (lo a),.int .i64 (hi a)]))
   |_=>none) (λi=>match i with
   |15=>[14]
   |_=>[]) [14] [] (by simp) (by kernel_rfl) (by kernel_rfl) (by simp) (by simp) (by kernel_rfl) ?bnd ?keeps (Df Z S) ?_
  case bnd=>
   intro p hp o t ho ht;simp only[dZ]at hp;subst hp;simp only[List.getElem?_toArray,List.getElem?_cons_succ,Al,Option.some.injEq]at ho;subst ho;simp only[Option.some.injEq]at ht;subst ht;simp
  case keeps=>
   intro i sp h;split at h
   .injection h with h;subst h;exact pW _ _ _ _ _ _ (λk hk=>(HSL.out k hk).2)
   .injection h with h;subst h;exact⟨tX _ _ _ _ _ _ _,λh=>absurd rfl h⟩
   .cases h
  simp only[fK,bV,fT,cO];repeat(refine Cm rfl (λK hK=>?_);go_simp;refine hK _ ?_;clear hK K)
  refine Gc _ rfl rfl rfl ?_ (λy _=>?_) ?_
  .exact⟨_,Z.heap.size,bH _,rfl⟩
  .go_simp
   refine⟨⟨_,bF y.prop.size (bH _),rfl⟩,λb hb=>?_,aK (aD _ _) _⟩;simp only[Value.slice.injEq,Option.some.injEq,Addr.mk.injEq,and_true]at hb;subst hb;exact⟨y.prop.size,bC _ _⟩
  rintro _ ⟨gb,hgb,rfl⟩;refine Gd _ rfl rfl rfl ?_ (λy hpre=>?_) ?_
  .exact⟨_,0,0,rfl⟩
  .have hp:=hpre 14 (by simp) (nZ Z 222 #[.int .i64 a,.int .i64 (lo a),.int .i64 (hi a)]) rfl _ _ rfl rfl gb rfl
   rw[hSd];exact tY (P:=Tryz.prog) (Z:=Z) (z:=y.val) (.tmp 20) (.tmp 30) 173 rfl X.B 222 ii (.agg #[.int .i64 0,.int .i64 0,.int .i64 0]) 3 24 Tryz.underlying173 hii hiz his hib rfl (by decide) (.slice A H.length oc) H.length (H.flatMap oO) rfl (dM vH.out.old y.prop) gb #[.int .i64 a,.int .i64 (lo a),.int .i64 (hi a)] 222 (0,0) rfl hp.2 rfl (by intro u hu;simp only[d_,iW,or_false]at hu;rcases hu with rfl|rfl|rfl<;>rfl) (by unfold maxLen;omega) (by omega) (by have h1:=vH.out.low.1;have h2:=vH.out.box.lt;have h3:=y.prop.size;omega) y.prop.size
  rintro _ ⟨g6,c6,rfl⟩;refine KR ?_;rintro y ⟨⟨_,_⟩,hrow,tV⟩;have Hu:=vH.out.box.keep y.prop (tT.out _ _ _ vH.out.box (by decide));have UJ:=vH.out.bnd.keep y.prop (tT.out _ _ _ vH.out.bnd (by decide));have hxb:=oU.out.keep y.prop (tT.out _ _ _ oU.out (by decide));have hsb:X.sb<y.val.heap.size:=Hu.lt;have z3:=x3 y;have f3:=Hu.frozen 3;have hmv:pV X Z (y.val.setCell ⟨X.sb,3,none⟩ (.slice (some ⟨g6,0,none⟩) (H.length+1) c6)):=by
   refine pV.xU (S:=λb=>S b\/b=X.sb) ((y.prop.mono (λi _ h=>.inl h)).setCell (.inl (.inr rfl)) _) (λk hk _=>?_);rcases hk with hk|rfl
   .exact(HSL.out k hk).1
   .exact vH.out.box.sset vH.out.low.1 (.inl rfl) (.inl rfl)
  have IJ:Hid (aP (y.val.setCell ⟨X.sb,3,none⟩ (.slice (some ⟨g6,0,none⟩) (H.length+1) c6)) X lo hi (some ⟨g6,0,none⟩) c6 (H++[(a,lo a,hi a)])):=by
   have hl:(H++[(a,lo a,hi a)]).length=H.length+1:=by simp
   have hu2:aH (λb=>b=X.sb) y.val (y.val.setCell ⟨X.sb,3,none⟩ (.slice (some ⟨g6,0,none⟩) (H.length+1) c6)):=(aH.refl (λb=>b=X.sb) y.val).setCell (p:=⟨X.sb,3,none⟩) (.inl rfl) _;refine⟨vH.out.uQ.EZ hmv,vH.out.wB.EZ hmv,vH.out.Hr,vH.out.Ht,?_,UJ.keep hu2 (λe=>UJ.ne Hu (by decide) e),?_,vH.out.low⟩
   .rw[hl]
    exact Hu.set (i:=3) (by simp) _
   .rw[hl,show(H++[(a,lo a,hi a)]).flatMap oO=H.flatMap oO++[.int .i64 a,.int .i64 (lo a),.int .i64 (hi a)] by rw[Fb];rfl]
    refine bX hrow hu2 (λb hb e=>?_);subst e;obtain⟨tl,Hu⟩:=Hu;exact cZ hrow Hu (by decide) hb
  have rF:Hid (Own (y.val.setCell ⟨X.sb,3,none⟩ (.slice (some ⟨g6,0,none⟩) (H.length+1) c6)) 177 w.heap.size [.int .i64 l,.int .i64 u]):=
   hxb.keep ((aH.refl (λb=>b=X.sb) y.val).setCell (p:=⟨X.sb,3,none⟩) (.inl rfl) _) (λe=>hxb.ne Hu (by decide) e)
  have Ml:=ah ((pV.of_below mE.out).trans hmv);clear hmv Hu UJ hxb hrow tV x0 x3 d0 d1 vH oU hgb;gi_wp2;generalize y.val.setCell ⟨X.sb,3,none⟩ (.slice (some ⟨g6,0,none⟩) (H.length+1) c6)=W3 at IJ rF Ml⊢;clear z3 f3;have b0:=rF.out.cell (i:=0) rfl;have b1:=rF.out.cell (i:=1) rfl;have s0:W3.cell? ⟨X.sb,0,none⟩=some (.slice (some ⟨X.bb,0,none⟩) X.n X.n):=IJ.out.box.cell rfl;have d0:=IJ.out.bnd.cell (dR lo hi ha (j:=0) (by omega));have d1:=IJ.out.bnd.cell (dR lo hi ha (j:=1) (by omega));rw[jW]at d0;have f0:=IJ.out.bnd.frozen (a*2);have f1:=IJ.out.bnd.frozen (a*2+1);go_upto_region 4 with(fail)
  refine iH 6 (by simp) (by kernel_rfl) (by kernel_rfl) ?_;simp only[fK,bV,fT,cO];repeat(go_big_quiet_step (fail))
  refine aS ?_;rintro _ ⟨mq,rfl⟩;gi_wp2;have hbd:=IJ.out.bnd;have hbx:=IJ.out.box;have hud:aH (λ_=>False) W3 (W3.drewN mq):=(aH.refl _ _).drewN mq;have UH:=((hbd.keep hud (λh=>h)).set (i:=a*2) (by rw[nC];omega) (.int .i64 l)).set (i:=a*2+1) (by rw[List.length_set,nC];omega) (.int .i64 u);rw[Oc lo hi ha]at UH;have QT:aH (λb=>b=X.bb) W3 (((W3.drewN mq).setCell ⟨X.bb,a*2,none⟩ (.int .i64 l)).setCell ⟨X.bb,a*2+1,none⟩ (.int .i64 u)):=
   (((aH.refl (λb=>b=X.bb) W3).drewN mq).setCell (p:=⟨X.bb,a*2,none⟩) (.inl rfl) _).setCell (p:=⟨X.bb,a*2+1,none⟩) (.inl rfl) _
  have Od:pV X W3 (((W3.drewN mq).setCell ⟨X.bb,a*2,none⟩ (.int .i64 l)).setCell ⟨X.bb,a*2+1,none⟩ (.int .i64 u)):=
   pV.xU QT (λk hk _=>by subst hk;exact hbd.sset IJ.out.low.2 (.inr (.inl rfl)) (.inr (.inl rfl)))
  have XI:Hid (aP (((W3.drewN mq).setCell ⟨X.bb,a*2,none⟩ (.int .i64 l)).setCell ⟨X.bb,a*2+1,none⟩ (.int .i64 u)) X (setAt lo a l) (setAt hi a u) (some ⟨g6,0,none⟩) c6 (H++[(a,lo a,hi a)])):=by
   refine⟨IJ.out.uQ.EZ Od,IJ.out.wB.EZ Od,IJ.out.Hr,IJ.out.Ht,hbx.keep QT (λe=>hbx.ne hbd (by decide) e),UH,bX IJ.out.old QT (λb hb e=>?_),IJ.out.low⟩;subst e;obtain⟨tl,hbd⟩:=hbd;exact cZ IJ.out.old hbd (by decide) hb
  have HM4:=ah (Ml.out.trans Od);clear Od QT UH hud hbx hbd b0 b1 s0 d0 d1 f0 f1 IJ rF Ml;go_wp2;go_ret;exact⟨_,_,rfl,XI.out,HM4.out⟩
end
section
open Go.RowKit Go.Shelf
def xV(W0:World)(e:TypeId)(n:Nat)(cs:Array Value):bO:=
 ⟨λv=>∃b,W0.heap.size<=b/\v= .slice (some ⟨b,0,none⟩) n n,λv z=>∀b,v= .slice (some ⟨b,0,none⟩) n n->z.heap[b]?=some (.cells cs e (0,0))⟩
theorem rG(W0:World)(e:TypeId)(n:Nat)(cs:Array Value):(xV W0 e n cs).Keeps:=λv z z' h hb b hv=>by
 have h1:=h b hv;rw[hb.block b (av h1)];exact h1
def PrN(n:Nat)(_ _:Nat)(u v:Value):Prop:=∀b b',u= .slice (some ⟨b,0,none⟩) n n->v= .slice (some ⟨b',0,none⟩) n n->b≠b'
theorem zX{P:Program}{W0:World}{o:Oper}{ρ:Operand->Value}{mk:Nat->Option bO}{ds:List Nat}{j:Nat}(t:TypeId)(l c:Operand)(hop:o.op=Op.makeSlice t l c)(e:TypeId)(i:TypeInfo)(z:Value)(size:Nat)(ht:P.underlying t=some (.slice e))(hi:P.info? e=some i)(hz:i.zero=some z)(hsz:i.size=size)
 (n:Nat)(hl:ρ l= .int .i64 (n:Int))(hc:ρ c= .int .i64 (n:Int))(hb:i.bytes*n<=281474976710656)(h63:n<=9223372036854775807)(w:World)(hw:W0.heap.size<=w.heap.size)(hp:j∈ds->∀p∈ds,p≠j->∀sp,mk p=some sp->∀u,sp.S u w->∀b,u= .slice (some ⟨b,0,none⟩) n n->b<w.heap.size):
 bK P w (M_ (xV W0 e n (madeCells z.cells (n*size))) (JO mk ds (PrN n) j w)) ((execOp ρ o).run P w):=by
 subst hsz;have hb':(i.bytes:Int)*(n:Int)<=281474976710656:=by
  have h:((i.bytes*n:Nat):Int)<=281474976710656:=by omega
  rwa [Int.natCast_mul]at h
 have hr:=run_make (P:=P) w t e i z ht hi hz .i64 .i64 n n (by omega) (iL _) hb' (by omega);simp only[su]at hr;simp only[execOp,hop,hl,hc,Sem.run_bind,hr,Result.andThen_ok,Sem.run_pure];refine⟨⟨⟨w.heap.size,hw,rfl⟩,λhj p hpd hne sp hsp u hu=>?_⟩,λb hv=>?_,aK (aD _ _) _⟩
 .have h1:=hp hj p hpd hne sp hsp u hu
  refine⟨λb b' e1 e2=>?_,λb b' e1 e2=>?_⟩
  .have:=h1 b e1
   simp only[Value.slice.injEq,Option.some.injEq,Addr.mk.injEq,and_true]at e2;omega
  .have:=h1 b' e2
   simp only[Value.slice.injEq,Option.some.injEq,Addr.mk.injEq,and_true]at e1;omega
 .simp only[Value.slice.injEq,Option.some.injEq,Addr.mk.injEq,and_true]at hv
  subst hv;exact bC w _
theorem UK(n:Nat):(madeCells (Value.cells (.agg #[.int .i64 0,.int .i64 0])) (n*2)).toList=EG (λ_=>0) (λ_=>0) n:=by
 rw[Gw];unfold EG Db gT;apply kX;intro j;rcases iA j (n*2)with hj|hj
 .have h1:=fF (P:=List.replicate n (0,0)) (i:=j/2) (j:=j % 2) (p:=(0,0)) (by rw[Am,if_pos (by omega)]) (by omega)
  have h2:=dR (λ_=>0) (λ_=>0) (n:=n) (i:=j/2) (j:=j % 2) (by omega) (by omega);rw[show j/2*2+j % 2=j by omega]at h1 h2;exact h1.trans h2.symm
 .have h1:=lF (List.replicate n (0,0))
  have h2:=nC (λ_=>0) (λ_=>0) n;rw[mH]at h1;rw[lY (by show(gT (List.replicate n (0,0))).length<=j;rw[h1];exact hj),lY (by show(EG (λ_=>0) (λ_=>0) n).length<=j;rw[h2];exact hj)]
def nK(P:List (Nat×Nat))(n k:Nat):List (List Int):=(List.range n).map (λi=>((P.take k).filter (λp=>p.2==i)).map (λp=>(p.1:Int)))
def nL(P:List (Nat×Nat))(n k:Nat):List (List Int):=(List.range n).map (λi=>((P.take k).filter (λp=>p.1==i)).map (λp=>(p.2:Int)))
theorem QV(P:List (Nat×Nat))(n:Nat):nK P n 0=List.replicate n []:=by
 apply kX;intro i;by_cases h:i<n<;>simp[nK,h]
theorem QW(P:List (Nat×Nat))(n:Nat):nL P n 0=List.replicate n []:=by
 apply kX;intro i;by_cases h:i<n<;>simp[nL,h]
theorem J_{P:List (Nat×Nat)}{n k i:Nat}(h:i<n):(nK P n k)[i]?=some (((P.take k).filter (λp=>p.2==i)).map (λp=>(p.1:Int))):=by
 unfold nK;rw[gG,Ao h];rfl
theorem Ka{P:List (Nat×Nat)}{n k i:Nat}(h:i<n):(nL P n k)[i]?=some (((P.take k).filter (λp=>p.1==i)).map (λp=>(p.2:Int))):=by
 unfold nL;rw[gG,Ao h];rfl
theorem zC{α:Type}{f g:Nat->α}{n j:Nat}(h:∀i,i≠j->g i=f i):(List.range n).map g=((List.range n).map f).set j (g j):=by
 apply kX;intro i;rw[jI];simp only[gG,eF,List.length_range];by_cases e:j=i
 .subst e
  rw[if_pos rfl];by_cases hj:j<n
  .rw[if_pos hj,Ao hj];rfl
  .rw[if_neg hj,lY (by simp;omega)];rfl
 .rw[if_neg e]
  by_cases hi:i<n
  .rw[Ao hi]
   simp only[j3];rw[h i (λe2=>e e2.symm)]
  .rw[lY (by simp;omega)];rfl
theorem UL{P:List (Nat×Nat)}{n k:Nat}{p:Nat×Nat}(hp:P[k]?=some p):nK P n (k+1)=(nK P n k).set p.2 (((P.take k).filter (λq=>q.2==p.2)).map (λq=>(q.1:Int))++[(p.1:Int)]):=by
 unfold nK;rw[bS hp,zC (f:=λi=>((P.take k).filter (λq=>q.2==i)).map (λq=>(q.1:Int))) (j:=p.2) (λi hi=>?_)]
 .simp[List.filter_append]
 .rw[List.filter_append,uf]
  have:(p.2==i)=false:=by simp;exactλe=>hi e.symm
  simp[this]
theorem UM{P:List (Nat×Nat)}{n k:Nat}{p:Nat×Nat}(hp:P[k]?=some p):nL P n (k+1)=(nL P n k).set p.1 (((P.take k).filter (λq=>q.1==p.1)).map (λq=>(q.2:Int))++[(p.2:Int)]):=by
 unfold nL;rw[bS hp,zC (f:=λi=>((P.take k).filter (λq=>q.1==i)).map (λq=>(q.2:Int))) (j:=p.1) (λi hi=>?_)]
 .simp[List.filter_append]
 .rw[List.filter_append,uf]
  have:(p.1==i)=false:=by simp;exactλe=>hi e.symm
  simp[this]
def ZT(F:List aB)(O:List aX)(u:Int)(w:World)(e:Ending)(w':World):Prop:=
 ∃X:SX,e= .returned (.pointer (some ⟨X.sb,0,none⟩))/\X.B=w.heap.size/\(X.B<=X.rb/\X.B<=X.ab)/\X.n=F.length/\X.Lb=nK (bI F O) F.length O.length/\X.La=nL (bI F O) F.length O.length/\aP w' X (I_ F u) (Ja F u) none 0 []/\Below w.heap.size w w'
attribute [local go_sem] jS Ga stillUpon bK
theorem Jp(fv:FV)(ho:Int)(F:List aB)(O:List aX)(u:Int)(w:World)(hF:fM w fv ⟨ho,F,O⟩)(hR:∀x∈F,gW x.ref)(hD:bB F)(hF4:F.length<=4000)(hO4:O.length<=4000)(hK:Known F O):
 Calls Tryz.prog 63 #[fv.val ⟨ho,F,O⟩,.int .i64 u] w (ZT F O u w):=by
 obtain⟨⟨fA,fc⟩,⟨oA,oc⟩⟩:=fv;have HF:=ah hF;clear hF;have HR:=ah hR;clear hR;have HD:=ah hD;clear hD;have HK:=ah hK;clear hK;simp only[FV.val,FV.cells];obtain⟨n,HN⟩:∃n,Hid (n=F.length):=⟨_,rfl⟩;rw[<-HN.out];have R8:n<=4000:=by rw[HN.out];exact hF4
 go_enter Tryz.func63,Tryz.ntmps63;go_upto_region 1 with(fail)
 generalize hW0:World.alloc _ _=W0;obtain⟨HB,hh0⟩:=bx1 hW0;obtain⟨jA,jB,jK⟩:=kc3 hh0;have hs0:w.heap.size<W0.heap.size:=av hh0;clear hh0 hW0;change Code.wp _ _ _ _ (Bl.val (⟨W0,aD _ _⟩:Bl W0));generalize hz0:(⟨W0,aD _ _⟩:Bl W0)=z0;go_upto_region 2 with(fail)
 rw[<-hz0];clear hz0 z0;obtain⟨i1,hi1,hz1,hsz1,ajk⟩:=info_parts' (P:=Tryz.prog) (t:=177) (z:=some (.agg #[.int .i64 0,.int .i64 0])) (s:=2) (b:=16) (by kernel_rfl);obtain⟨i2,hi2,hz2,hsz2,afQ⟩:=info_parts' (P:=Tryz.prog) (t:=22) (z:=some (.slice none 0 0)) (s:=1) (b:=24) (by kernel_rfl);refine Gi (s:=(⟨W0,aD _ _⟩:Bl W0)) 7 (λi=>match i with
  |1=>some (xV W0 177 n (madeCells (Value.cells (.agg #[.int .i64 0,.int .i64 0])) (n*2)))
  |3=>some (xV W0 22 n (madeCells (Value.cells (.slice none 0 0)) (n*1)))
  |5=>some (xV W0 22 n (madeCells (Value.cells (.slice none 0 0)) (n*1)))
  |_=>none) (λ_=>[]) [3,5] [] (PrN n) (by simp) (by kernel_rfl) (by kernel_rfl) (by simp) (by simp) (by kernel_rfl) ?bnd ?keeps (by simp) ?_
 case bnd=>
  intro p hp o t ho ht;simp only[d_,iW,or_false]at hp;rcases hp with rfl|rfl
  all_goals
   simp only[List.getElem?_toArray,List.getElem?_cons_succ,Al,Option.some.injEq]at ho;subst ho;simp only[Option.some.injEq]at ht;subst ht;simp
 case keeps=>
  intro i sp h;split at h
  .injection h with h;subst h;exact rG _ _ _ _
  .injection h with h;subst h;exact rG _ _ _ _
  .injection h with h;subst h;exact rG _ _ _ _
  .cases h
 simp only[fK,bV,fT,cO];repeat(refine yC rfl (λK hK=>?_);go_simp;refine hK _ ?_;clear hK K)
 refine Gh _ rfl rfl ?_ (λy _=>zX 172 (.tmp 16) (.tmp 16) rfl 177 i1 (.agg #[.int .i64 0,.int .i64 0]) 2 Tryz.underlying172 hi1 hz1 hsz1 n rfl rfl (by rw[ajk];omega) (by omega) y.val y.prop.size ?_) ?_
 .exact⟨_,W0.heap.size,bH _,rfl⟩
 .intro h;simp at h
 rintro _ ⟨bb,hbb,rfl⟩;repeat(refine yC rfl (λK hK=>?_);go_simp;refine hK _ ?_;clear hK K)
 refine Gh _ rfl rfl ?_ (λy _=>zX 84 (.tmp 18) (.tmp 18) rfl 22 i2 (.slice none 0 0) 1 Tryz.underlying84 hi2 hz2 hsz2 n rfl rfl (by rw[afQ];omega) (by omega) y.val y.prop.size ?_) ?_
 .exact⟨_,W0.heap.size,bH _,rfl⟩
 .intro _ p hp hne sp hsp u hu b hb
  simp only[d_,iW,or_false]at hp;rcases hp with rfl|rfl
  .exact absurd rfl hne
  .injection hsp with hsp
   subst hsp;exact av (hu b hb)
 rintro _ ⟨rb,hrb,rfl⟩;repeat(refine yC rfl (λK hK=>?_);go_simp;refine hK _ ?_;clear hK K)
 refine Gh _ rfl rfl ?_ (λy _=>zX 84 (.tmp 20) (.tmp 20) rfl 22 i2 (.slice none 0 0) 1 Tryz.underlying84 hi2 hz2 hsz2 n rfl rfl (by rw[afQ];omega) (by omega) y.val y.prop.size ?_) ?_
 .exact⟨_,W0.heap.size,bH _,rfl⟩
 .intro _ p hp hne sp hsp u hu b hb
  simp only[d_,iW,or_false]at hp;rcases hp with rfl|rfl
  .injection hsp with hsp
   subst hsp;exact av (hu b hb)
  .exact absurd rfl hne
 rintro _ ⟨ab,hab,rfl⟩;repeat(refine yC rfl (λK hK=>?_);go_simp;refine hK _ ?_;clear hK K)
 refine Zl ?_;rintro XJ y ⟨⟨⟨_,hA⟩,hC⟩,hE⟩;have hne:rb≠ab:=XJ 3 (by simp) 5 (by simp) (by omega) rfl rfl _ rfl _ rfl _ _ _ _ rfl rfl rfl rfl rb ab rfl rfl;have g1:=hA bb rfl;have g2:=hC rb rfl;have g3:=hE ab rfl;clear hA hC hE XJ;gi_wp2;obtain⟨sb,hsb⟩:∃sb,sb=y.val.heap.size:=⟨_,rfl⟩;rw[<-hsb];generalize hW1:World.alloc _ _=W1;have hb1:Below y.val.heap.size y.val W1:=by rw[<-hW1];exact aK (aD _ _) _
 have hbW:Below W0.heap.size W0 W1:=ay y.prop hb1;have hBX:Own W1 175 sb [.slice (some ⟨bb,0,none⟩) n n,.slice (some ⟨rb,0,none⟩) n n,.slice (some ⟨ab,0,none⟩) n n,.slice none 0 0]:=by
  rw[<-hW1,hsb];exact Own.new _ _ _
 have hrows:∀b,y.val.heap[b]?=some (.cells (madeCells (Value.slice none 0 0).cells (n*1)) 22 (0,0))->Own W1 22 b (List.replicate n (.slice none 0 0)):=λb hb=>by
  refine⟨[],?_⟩;rw[b_,<-J9,Array.toArray_toList];exact(hb1.block b (av hb)).trans hb
 have UJ:Own W1 177 bb (EG (λ_=>0) (λ_=>0) n):=by
  refine⟨[],?_⟩;rw[b_,<-UK,Array.toArray_toList];exact(hb1.block bb (av g1)).trans g1
 have vH:Hid (aP (Bl.val (⟨W1,hbW⟩:Bl W0)) ⟨w.heap.size,sb,bb,rb,ab,n,List.replicate n (.slice none 0 0),List.replicate n (.slice none 0 0),List.replicate n [],List.replicate n []⟩ (λi=>if i<0 then I_ F u i else 0) (λi=>if i<0 then Ja F u i else 0) none 0 []):=by
  refine⟨bZ.made (hrows rb g2),bZ.made (hrows ab g3),by simp,by simp,hBX,?_,World.ownsRow_nil _ _ _ _,?_⟩
  .simpa using UJ
  .have:=y.prop.size
   constructor
   .show w.heap.size<=sb
    omega
   .show w.heap.size<=bb
    omega
 have hlow:w.heap.size<sb/\w.heap.size<bb/\w.heap.size<rb/\w.heap.size<ab/\W0.heap.size<=bb:=by
  have:=y.prop.size;omega
 have EF:Hid (∀z:Bl W0,Below w.heap.size w z.val):=λz=>ay HB.out z.prop;change Code.wp _ _ _ _ (Bl.val (⟨W1,hbW⟩:Bl W0));generalize(⟨W1,hbW⟩:Bl W0)=s1 at vH⊢;clear hBX hrows UJ hb1 hbW hW1 hsb g1 g2 g3 hbb hrb hab y;go_wp2
 go_loopg [27] n (λgk v27 wr=>∃(k:Nat)(z:Bl W0),gk=n - k/\k<=n/\v27= .int .i64 k/\wr=z.val/\Hid (aP z.val ⟨w.heap.size,sb,bb,rb,ab,n,List.replicate n (.slice none 0 0),List.replicate n (.slice none 0 0),List.replicate n [],List.replicate n []⟩ (λi=>if i<k then I_ F u i else 0) (λi=>if i<k then Ja F u i else 0) none 0 []))
 case atStart=>exact⟨0,s1,rfl,aV _,rfl,rfl,vH⟩
 case round=>
  obtain⟨k,z,eH,hk,rfl,rfl,HS⟩:=hrel;have iB:=ah eH;clear eH vH;by_cases hlt:k<n
  .have HNF:=HN.out
   obtain⟨fb,fo,kI,hfb,hcell⟩:=HF.out.facts.fact (by show 0<F.length;omega);simp only at kI;subst kI;obtain⟨⟨re,ac,lo,hi,fi,se⟩,hx⟩:∃x,F[k]?=some x:=⟨F[k]'(by omega),aT (by omega)⟩;obtain⟨e0,e1,e2,e3,e4,e5⟩:=TW (λz hz=>hcell k _ hx z (ay HB.out hz)) rfl;have HX:=ah hx;clear hx hcell HNF;have j1:(k:Int)<(n:Int):=by omega
   go_upto_region 6 with(fail)
   generalize hWa:World.alloc _ _=Wa;obtain⟨hba,hxa⟩:=bx1' hWa;clear hWa;have hSa:=HS.out.below hba;have HBa:Hid (Below W0.heap.size W0 Wa):=ay z.prop hba;obtain⟨d0,d1,d2,d3,d4,d5⟩:=kc6 hxa;have q2:=d2 ⟨Wa,aD _ _⟩;have q3:=d3 ⟨Wa,aD _ _⟩;simp only at q2 q3;have s0:Wa.cell? ⟨sb,0,none⟩=some (.slice (some ⟨bb,0,none⟩) n n):=hSa.box.cell rfl;have c0:=hSa.bnd.cell (dR _ _ hlt (j:=0) (by omega));have c1:=hSa.bnd.cell (dR _ _ hlt (j:=1) (by omega));rw[jW]at c0;simp only[Nat.lt_irrefl,if_false]at c0 c1;have f0:=hSa.bnd.frozen (k*2);have f1:=hSa.bnd.frozen (k*2+1);have SF:=ah hSa;clear hSa;clear d0 d1 d2 d3 d4 d5 e0 e1 e2 e3 e4 e5 hxa hba;refine iH 14 (by simp) (by kernel_rfl) (by kernel_rfl) ?_;simp only[fK,bV,fT,cO];repeat(go_big_quiet_step (fail))
   refine aS ?_;rintro _ ⟨mq,rfl⟩;gi_wp2;have sO:=SF.out.XG mq (i:=k) hlt (min lo u) (min hi u);have yU:=ah (sO.1.congr (lo':=λi=>if i<k+1 then I_ F u i else 0) (hi':=λi=>if i<k+1 then Ja F u i else 0) (λi hi'=>by
    by_cases e:i=k
    .subst e
     rw[eP,eP,if_pos (by omega),if_pos (by omega)];unfold I_ Ja;rw[getD_map HX.out,getD_map HX.out];exact⟨rfl,rfl⟩
    .rw[eT _ _ e,eT _ _ e]
     by_cases h2:i<k
     .rw[if_pos h2,if_pos h2,if_pos (by omega),if_pos (by omega)]
      exact⟨rfl,rfl⟩
     .rw[if_neg h2,if_neg h2,if_neg (by omega),if_neg (by omega)]
      exact⟨rfl,rfl⟩))
   have HBC:Hid (Below W0.heap.size W0 (((Wa.drewN mq).setCell ⟨bb,k*2,none⟩ (.int .i64 (min lo u))).setCell ⟨bb,k*2+1,none⟩ (.int .i64 (min hi u)))):=by
    have h:=(aH.of_below HBa.out).drewN mq;have afR:W0.heap.size<=bb:=hlow.2.2.2.2;exact aH.below ((h.setCell (p:=⟨bb,k*2,none⟩) (.inl afR) (.int .i64 (min lo u))).setCell (p:=⟨bb,k*2+1,none⟩) (.inl afR) (.int .i64 (min hi u))) (bH _) (λi hi=>hi)
   clear sO SF HBa q2 q3 s0 c0 c1 f0 f1 HS;generalize(((Wa.drewN mq).setCell ⟨bb,k*2,none⟩ (.int .i64 (min lo u))).setCell ⟨bb,k*2+1,none⟩ (.int .i64 (min hi u)))=Wc at yU HBC⊢;go_wp2
   go_roundg (n - (k+1))
   case measure=>rw[iB.out];omega
   case rel=>exact⟨k+1,⟨Wc,HBC.out⟩,rfl,by omega,by go_num,rfl,yU⟩
  .obtain rfl:n=k:=by omega
   clear iB hlt;have yR:=ah (HS.out.congr (lo':=I_ F u) (hi':=Ja F u) (λi hi'=>by
    have h:i<n:=hi';rw[if_pos h,if_pos h];exact⟨rfl,rfl⟩))
   clear HS;have vY:=ah (Gx ⟨⟨fA,fc⟩,⟨oA,oc⟩⟩ ⟨ho,F,O⟩ z.val (HF.out.below (EF.out z)) HR.out HD.out hF4 hO4 HK.out);simp only[FV.val,FV.cells]at vY;rw[<-HN.out]at vY;go_wp2_with (go_at_call 99;refine vY.out.mono ?_;rintro e Z ⟨pA,pc,rfl,hP,hpn,hz⟩;refine Hid.out ?_);refine ah ?_;have qB:=ah (Np HD.out HK.out);have XK:Hid ((bI F O).length=O.length):=by show _=_;unfold bI;rw[eF]
   have hP4:(bI F O).length<=4000:=by rw[XK.out];exact hO4
   have Sm:Hid (Below w.heap.size w Z):=(EF.out z).trans (hz.mono (EF.out z).size);have hrz:rb<z.val.heap.size/\ab<z.val.heap.size:=⟨yR.out.uQ.own.lt,yR.out.wB.own.lt⟩;have HPN:Hid (∀b off,pA=some ⟨b,off,none⟩->¬(b=rb\/b=ab)):=λb off e=>by have:=hpn b off e;omega
   have rT:=yR.out.below hz;have zY:Hid (aP Z ⟨w.heap.size,sb,bb,rb,ab,n,List.replicate n (.slice none 0 0),List.replicate n (.slice none 0 0),nK (bI F O) n 0,nL (bI F O) n 0⟩ (I_ F u) (Ja F u) none 0 []):=by
    show aP _ _ _ _ _ _ _;rw[QV,QW];exact rT
   have JZ:Hid (rb≠ab):=hne;have HPZ:=ah hP;rw[<-HN.out]at qB;clear rT yR hP hpn hrz vY hne;generalize hPP:bI F O=P at HPZ hP4 qB zY XK;have HPP:=ah hPP;clear hPP;obtain⟨ii,hii,hiz,his,hib⟩:=info_parts' (P:=Tryz.prog) (t:=3) (z:=some (.int .i64 0)) (s:=1) (b:=8) (by kernel_rfl);have hwZ:=Sm.out.size;have hsz:=hz.size;clear hz;go_wp2
   go_loopg [51] P.length (λgk v51 wr=>∃(j:Nat)(vb va:List Value),gk=P.length - j/\j<=P.length/\v51= .int .i64 j/\Hid (aP wr ⟨w.heap.size,sb,bb,rb,ab,n,vb,va,nK P n j,nL P n j⟩ (I_ F u) (Ja F u) none 0 [])/\Hid (aH (λi=>i=rb\/i=ab) Z wr)/\Hid (∀v,v∈vb\/v∈va->∀b,v.ownBlock=some b->Z.heap.size<=b)/\Hid (∀v∈vb,∀v'∈va,∀b,v.ownBlock=some b->v'.ownBlock≠some b))
   case atStart=>
    refine⟨0,_,_,rfl,aV _,rfl,zY,aH.refl _ _,λv hv b hb=>?_,λv hv v' hv' b hb=>?_⟩
    .rcases hv with hv|hv
     .rw[List.eq_of_mem_replicate hv]at hb;cases hb
     .rw[List.eq_of_mem_replicate hv]at hb;cases hb
    .rw[List.eq_of_mem_replicate hv]at hb;cases hb
   case round=>
    obtain⟨j,vb,va,eH,hj,rfl,K7,HU,Pj,QC⟩:=hrel;have Pk:=ah eH;clear eH zY;by_cases hlj:j<P.length
    .obtain⟨⟨x,y⟩,hp⟩:∃p,P[j]?=some p:=⟨P[j],aT hlj⟩
     obtain⟨hx,hy⟩:=qB.out _ (cK hp);simp only at hx hy;have HPW:=uG HPZ.out (by omega) HU.out HPN.out;obtain⟨pb,po,hPA,hpb,hpc⟩:=HPW.1.form (by omega) (by omega);subst hPA;have e0:wr.cell? ⟨pb,po+j*2,none⟩=some (.int .i64 x):=by
      have h:=hpc (j*2) (by omega);rw[h];exact fF (j:=0) hp (by omega)
     have e1:wr.cell? ⟨pb,po+j*2+1,none⟩=some (.int .i64 y):=by
      have h:=hpc (j*2+1) (by omega);rw[iM,h];exact fF (j:=1) hp (by omega)
     have HPJ:=ah hp;clear hp hpc HPW;have j1:(j:Int)<(P.length:Int):=by omega
     have x1':(x:Int)<(n:Int):=by omega
     have y1':(y:Int)<(n:Int):=by omega
     go_upto_region 11 with(fail)
     generalize hWa:World.alloc _ _=Wa;obtain⟨hba,hxa⟩:=bx1' hWa;have q0:∀z:Bl Wa,z.val.cell? ⟨wr.heap.size,0,none⟩=some (.int .i64 x):=λz=>(z.prop.cell (p:=⟨wr.heap.size,0,none⟩) (av hxa)).trans ((aG Wa _ 0 _ _ _ hxa).trans rfl);have q1:∀z:Bl Wa,z.val.cell? ⟨wr.heap.size,1,none⟩=some (.int .i64 y):=λz=>(z.prop.cell (p:=⟨wr.heap.size,1,none⟩) (av hxa)).trans ((aG Wa _ 1 _ _ _ hxa).trans rfl);have SF:=ah (K7.out.below hba);have HUA:=ah (lD HU.out hba);clear hWa hba hxa e0 e1 K7 HU;change Code.wp _ _ _ _ (Bl.val (⟨Wa,aD _ _⟩:Bl Wa));generalize(⟨Wa,aD _ _⟩:Bl Wa)=za;refine aI (by kernel_rfl) (by kernel_rfl) ?_;repeat(go_big_quiet_step (fail))
     refine aS ?_;rintro _ ⟨zb,rfl⟩;have UN:=ah (SF.out.below zb.prop);have HUR:=ah (lD HUA.out zb.prop);clear q0 q1 SF HUA;go_upto_region 12 with(fail)
     generalize zb.val=Wr at UN HUR⊢;obtain⟨rA,rc,hvd,hrow⟩:=UN.out.uQ.get (aV y) (J_ hy);have Jo:=ah hvd;clear hvd;have HPT:Hid (nK P n (j+1)=(nK P n j).set y (((P.take j).filter (λq=>q.2==y)).map (λq=>(q.1:Int))++[(x:Int)])):=UL HPJ.out;have hlr:(((P.take j).filter (λq=>q.2==y)).map (λq=>(q.1:Int))).length<=4000:=by
      rw[eF];refine bF (List.length_filter_le _ _) ?_;rw[p9];omega
     generalize((P.take j).filter (λq=>q.2==y)).map (λq=>(q.1:Int))=l at hrow Jo HPT hlr;have mG:=ah hrow;clear hrow;have tT:Hid (∀(t:TypeId)(b:Nat)(cs:List Value),Own Wr t b cs->t≠3->¬(Value.slice rA l.length rc).ownBlock=some b):=λt b cs ho ht hs=>by
      obtain⟨tl,ho⟩:=ho;exact cZ mG.out ho ht hs
     obtain⟨S,hSd⟩:∃S:Nat->Prop,S=λb=>(Value.slice rA l.length rc).ownBlock=some b:=⟨_,rfl⟩;have x0:∀q:Wl (λz=>aH S Wr z),q.val.cell? ⟨sb,1,none⟩=some (.slice (some ⟨rb,0,none⟩) n n):=λq=>(UN.out.box.keep q.prop (by rw[hSd];exact tT.out _ _ _ UN.out.box (by decide))).cell rfl;have x1:∀q:Wl (λz=>aH S Wr z),q.val.cell? ⟨rb,y,none⟩=some (.slice rA l.length rc):=λq=>(UN.out.uQ.own.keep q.prop (by rw[hSd];exact tT.out _ _ _ UN.out.uQ.own (by decide))).cell Jo.out;have x2:∀q:Wl (λz=>aH S Wr z),q.val.frozen? ⟨rb,y,none⟩=false:=λq=>(UN.out.uQ.own.keep q.prop (by rw[hSd];exact tT.out _ _ _ UN.out.uQ.own (by decide))).frozen y;have hSl:∀k,S k->k<Wr.heap.size:=λk hk=>by
      rw[hSd]at hk;exact(mG.out.lt k hk).2
     have acK:w.heap.size<=Wr.heap.size:=by have:=UN.out.box.lt;simp only at this;omega
     haveI:Inhabited (Wl (λz=>aH S Wr z)):=⟨⟨Wr,aH.refl _ _⟩⟩
     refine ru (s:=(⟨Wr,aD _ _⟩:Wl (λz=>Below Wr.heap.size Wr z))) (C1:=λz=>aH S Wr z) (T:=aH S) (f:=14) 15 (λi=>match i with
      |13=>some (nZ Wr 3 #[.int .i64 (x:Nat)])
      |14=>some (BH Wr w.heap.size 3 1 (l.length+1) (.slice rA l.length rc) (aR l++[.int .i64 (x:Nat)]))
      |_=>none) (λi=>match i with
      |14=>[13]
      |_=>[]) [13] [] (by simp) (by kernel_rfl) (by kernel_rfl) (by simp) (by simp) (by kernel_rfl) ?ajl ?acL (Df Wr S) ?_
     case ajl=>
      intro p hp o t ho ht;simp only[dZ]at hp;subst hp;simp only[List.getElem?_toArray,List.getElem?_cons_succ,Al,Option.some.injEq]at ho;subst ho;simp only[Option.some.injEq]at ht;subst ht;simp
     case acL=>
      intro i sp h;split at h
      .injection h with h;subst h;exact pW _ _ _ _ _ _ hSl
      .injection h with h;subst h;exact⟨tX _ _ _ _ _ _ _,λh=>absurd rfl h⟩
      .cases h
     simp only[fK,bV,fT,cO];repeat(refine Cm rfl (λK hK=>?_);go_simp;refine hK _ ?_;clear hK K)
     refine Gc _ rfl rfl rfl ?_ (λq _=>?_) ?_
     .exact⟨_,Wr.heap.size,bH _,rfl⟩
     .go_simp
      refine⟨⟨_,bF q.prop.size (bH _),rfl⟩,λb hb=>?_,aK (aD _ _) _⟩;simp only[Value.slice.injEq,Option.some.injEq,Addr.mk.injEq,and_true]at hb;subst hb;exact⟨q.prop.size,bC _ _⟩
     rintro _ ⟨gb,hgb,rfl⟩;refine Gd _ rfl rfl rfl ?_ (λq hpre=>?_) ?_
     .exact⟨_,0,0,rfl⟩
     .have hp:=hpre 13 (by simp) (nZ Wr 3 #[.int .i64 (x:Nat)]) rfl _ _ rfl rfl gb rfl
      rw[hSd];exact tY (P:=Tryz.prog) (Z:=Wr) (z:=q.val) _ _ 22 rfl w.heap.size 3 ii (.int .i64 0) 1 8 Tryz.underlying22 hii hiz his hib rfl (by decide) (.slice rA l.length rc) l.length (aR l) rfl (dM mG.out q.prop) gb #[.int .i64 (x:Nat)] 3 (0,0) rfl hp.2 rfl (by intro u hu;simp only[dZ]at hu;subst hu;rfl) (by unfold maxLen;omega) (by omega) (by have h3:=q.prop.size;omega) q.prop.size
     rintro _ ⟨g6,c6,rfl⟩;refine KR ?_;rintro q ⟨⟨_,_⟩,Ej,tV⟩;have z1:=x1 q;have z2:=x2 q;have hqp:aH (λb=>(Value.slice rA l.length rc).ownBlock=some b) Wr q.val:=q.prop.mono (λi _ h=>by rw[hSd]at h;exact h);have e6:(l++[(x:Int)]).length=l.length+1:=by simp
     have hput:=UN.out.acG (l':=l++[(x:Int)]) Jo.out hqp (by rw[e6,nY];exact Ej) tV JZ.out QC.out;have HOWN:Hid (∀b,(Value.slice (some ⟨g6,0,none⟩) (l.length+1) c6).ownBlock=some b->(Value.slice rA l.length rc).ownBlock=some b\/Wr.heap.size<=b):=λb hb=>by
      rcases tV with e|e
      .exact .inl (by rw[<-e];exact hb)
      .exact .inr (e b hb)
     have HNR:=HPT.out;simp only at hput;rw[<-HNR]at hput;clear HNR Ej tV hqp e6 acK hSl tT;have EH:=ah hput.1;have acM:=ah hput.2.2;have XL:Hid (aH (λi=>i=rb\/i=ab) Z (Wr.alloc (.map #[] 0))\/True):=.inr trivial;have acN:Hid (aH (λi=>i=rb\/i=ab) Z (q.val.setCell ⟨rb,y,none⟩ (.slice (some ⟨g6,0,none⟩) (l.length+1) c6))):=HUR.out.trans hput.2.1 (λi hi hs=>by
      rcases hs with hs|hs
      .have h1:=Pj.out _ (.inl (cK Jo.out)) i hs
       omega
      .exact .inl hs)
     have acO:Hid (∀v,v∈vb.set y (.slice (some ⟨g6,0,none⟩) (l.length+1) c6)\/v∈va->∀b,v.ownBlock=some b->Z.heap.size<=b):=λv hv b hb=>by
      have hzw:=HUR.out.size;rcases hv with hv|hv
      .rcases List.mem_or_eq_of_mem_set hv with h2|rfl
       .exact Pj.out v (.inl h2) b hb
       .rcases HOWN.out b hb with h3|h3
        .exact Pj.out _ (.inl (cK Jo.out)) b h3
        .omega
      .exact Pj.out v (.inr hv) b hb
     clear hput XL QC Pj UN HUR HOWN HPT Jo mG x0 x1 x2;gi_wp2;clear z1 z2;generalize q.val.setCell ⟨rb,y,none⟩ (.slice (some ⟨g6,0,none⟩) (l.length+1) c6)=Wr at EH acN⊢;generalize vb.set y (.slice (some ⟨g6,0,none⟩) (l.length+1) c6)=vb2 at EH acM acO;have QC:=acM;clear acM;have Pj:=acO;clear acO;have HUR:=acN;clear acN;go_upto_region 13 with(fail)
     obtain⟨rA,rc,hvd,hrow⟩:=EH.out.wB.get (aV x) (Ka hx);have Jo:=ah hvd;clear hvd;have HPT:Hid (nL P n (j+1)=(nL P n j).set x (((P.take j).filter (λq=>q.1==x)).map (λq=>(q.2:Int))++[(y:Int)])):=UM HPJ.out;have hlr:(((P.take j).filter (λq=>q.1==x)).map (λq=>(q.2:Int))).length<=4000:=by
      rw[eF];refine bF (List.length_filter_le _ _) ?_;rw[p9];omega
     generalize((P.take j).filter (λq=>q.1==x)).map (λq=>(q.2:Int))=l at hrow Jo HPT hlr;have mG:=ah hrow;clear hrow;have tT:Hid (∀(t:TypeId)(b:Nat)(cs:List Value),Own Wr t b cs->t≠3->¬(Value.slice rA l.length rc).ownBlock=some b):=λt b cs ho ht hs=>by
      obtain⟨tl,ho⟩:=ho;exact cZ mG.out ho ht hs
     obtain⟨S,hSd⟩:∃S:Nat->Prop,S=λb=>(Value.slice rA l.length rc).ownBlock=some b:=⟨_,rfl⟩;have x0:∀q:Wl (λz=>aH S Wr z),q.val.cell? ⟨sb,2,none⟩=some (.slice (some ⟨ab,0,none⟩) n n):=λq=>(EH.out.box.keep q.prop (by rw[hSd];exact tT.out _ _ _ EH.out.box (by decide))).cell rfl;have x1:∀q:Wl (λz=>aH S Wr z),q.val.cell? ⟨ab,x,none⟩=some (.slice rA l.length rc):=λq=>(EH.out.wB.own.keep q.prop (by rw[hSd];exact tT.out _ _ _ EH.out.wB.own (by decide))).cell Jo.out;have x2:∀q:Wl (λz=>aH S Wr z),q.val.frozen? ⟨ab,x,none⟩=false:=λq=>(EH.out.wB.own.keep q.prop (by rw[hSd];exact tT.out _ _ _ EH.out.wB.own (by decide))).frozen x;have hSl:∀k,S k->k<Wr.heap.size:=λk hk=>by
      rw[hSd]at hk;exact(mG.out.lt k hk).2
     have acK:w.heap.size<=Wr.heap.size:=by have:=EH.out.box.lt;simp only at this;omega
     haveI:Inhabited (Wl (λz=>aH S Wr z)):=⟨⟨Wr,aH.refl _ _⟩⟩
     refine ru (s:=(⟨Wr,aD _ _⟩:Wl (λz=>Below Wr.heap.size Wr z))) (C1:=λz=>aH S Wr z) (T:=aH S) (f:=14) 15 (λi=>match i with
      |13=>some (nZ Wr 3 #[.int .i64 (y:Nat)])
      |14=>some (BH Wr w.heap.size 3 1 (l.length+1) (.slice rA l.length rc) (aR l++[.int .i64 (y:Nat)]))
      |_=>none) (λi=>match i with
      |14=>[13]
      |_=>[]) [13] [] (by simp) (by kernel_rfl) (by kernel_rfl) (by simp) (by simp) (by kernel_rfl) ?ajm ?acP (Df Wr S) ?_
     case ajm=>
      intro p hp o t ho ht;simp only[dZ]at hp;subst hp;simp only[List.getElem?_toArray,List.getElem?_cons_succ,Al,Option.some.injEq]at ho;subst ho;simp only[Option.some.injEq]at ht;subst ht;simp
     case acP=>
      intro i sp h;split at h
      .injection h with h;subst h;exact pW _ _ _ _ _ _ hSl
      .injection h with h;subst h;exact⟨tX _ _ _ _ _ _ _,λh=>absurd rfl h⟩
      .cases h
     simp only[fK,bV,fT,cO];repeat(refine Cm rfl (λK hK=>?_);go_simp;refine hK _ ?_;clear hK K)
     refine Gc _ rfl rfl rfl ?_ (λq _=>?_) ?_
     .exact⟨_,Wr.heap.size,bH _,rfl⟩
     .go_simp
      refine⟨⟨_,bF q.prop.size (bH _),rfl⟩,λb hb=>?_,aK (aD _ _) _⟩;simp only[Value.slice.injEq,Option.some.injEq,Addr.mk.injEq,and_true]at hb;subst hb;exact⟨q.prop.size,bC _ _⟩
     rintro _ ⟨gb,hgb,rfl⟩;refine Gd _ rfl rfl rfl ?_ (λq hpre=>?_) ?_
     .exact⟨_,0,0,rfl⟩
     .have hp:=hpre 13 (by simp) (nZ Wr 3 #[.int .i64 (y:Nat)]) rfl _ _ rfl rfl gb rfl
      rw[hSd];exact tY (P:=Tryz.prog) (Z:=Wr) (z:=q.val) _ _ 22 rfl w.heap.size 3 ii (.int .i64 0) 1 8 Tryz.underlying22 hii hiz his hib rfl (by decide) (.slice rA l.length rc) l.length (aR l) rfl (dM mG.out q.prop) gb #[.int .i64 (y:Nat)] 3 (0,0) rfl hp.2 rfl (by intro u hu;simp only[dZ]at hu;subst hu;rfl) (by unfold maxLen;omega) (by omega) (by have h3:=q.prop.size;omega) q.prop.size
     rintro _ ⟨g6,c6,rfl⟩;refine KR ?_;rintro q ⟨⟨_,_⟩,Ej,tV⟩;have z1:=x1 q;have z2:=x2 q;have hqp:aH (λb=>(Value.slice rA l.length rc).ownBlock=some b) Wr q.val:=q.prop.mono (λi _ h=>by rw[hSd]at h;exact h);have e6:(l++[(y:Int)]).length=l.length+1:=by simp
     have hput:=EH.out.acH (l':=l++[(y:Int)]) Jo.out hqp (by rw[e6,nY];exact Ej) tV JZ.out QC.out;have HOWN:Hid (∀b,(Value.slice (some ⟨g6,0,none⟩) (l.length+1) c6).ownBlock=some b->(Value.slice rA l.length rc).ownBlock=some b\/Wr.heap.size<=b):=λb hb=>by
      rcases tV with e|e
      .exact .inl (by rw[<-e];exact hb)
      .exact .inr (e b hb)
     have HNR:=HPT.out;simp only at hput;rw[<-HNR]at hput;clear HNR Ej tV hqp e6 acK hSl tT;have acQ:=ah hput.1;have afU:=ah hput.2.2;have afV:Hid (aH (λi=>i=rb\/i=ab) Z (q.val.setCell ⟨ab,x,none⟩ (.slice (some ⟨g6,0,none⟩) (l.length+1) c6))):=HUR.out.trans hput.2.1 (λi hi hs=>by
      rcases hs with hs|hs
      .have h1:=Pj.out _ (.inr (cK Jo.out)) i hs
       omega
      .exact .inr hs)
     have afW:Hid (∀v,v∈vb2\/v∈va.set x (.slice (some ⟨g6,0,none⟩) (l.length+1) c6)->∀b,v.ownBlock=some b->Z.heap.size<=b):=λv hv b hb=>by
      have hzw:=HUR.out.size;rcases hv with hv|hv
      .exact Pj.out v (.inl hv) b hb
      .rcases List.mem_or_eq_of_mem_set hv with h2|rfl
       .exact Pj.out v (.inr h2) b hb
       .rcases HOWN.out b hb with h3|h3
        .exact Pj.out _ (.inr (cK Jo.out)) b h3
        .omega
     clear hput QC Pj EH HUR HOWN HPT Jo mG x0 x1 x2;gi_wp2;clear z1 z2;generalize q.val.setCell ⟨ab,x,none⟩ (.slice (some ⟨g6,0,none⟩) (l.length+1) c6)=Wm at acQ afV⊢;generalize va.set x (.slice (some ⟨g6,0,none⟩) (l.length+1) c6)=va2 at acQ afU afW;go_wp2
     go_roundg (P.length - (j+1))
     case measure=>rw[Pk.out];omega
     case rel=>exact⟨j+1,vb2,va2,rfl,by omega,by go_num,acQ,afV,afW,afU⟩
    .obtain rfl:j=P.length:=by omega
     clear Pk hlj;have Qu:Hid (Below w.heap.size w wr):=Sm.out.trans (HU.out.below Sm.out.size (λi hi=>by omega));rw[XK.out,<-HPP.out]at K7;go_wp2;go_ret;exact⟨⟨w.heap.size,sb,bb,rb,ab,n,vb,va,nK (bI F O) n O.length,nL (bI F O) n O.length⟩,rfl,rfl,⟨Nat.le_of_lt hlow.2.2.1,Nat.le_of_lt hlow.2.2.2.1⟩,HN.out,by rw[<-HN.out],by rw[<-HN.out],K7.out,Qu.out⟩
end
open Go.RowKit Go.Shelf
def oV:List (Nat×Int×Int)->(Nat->Int)->Nat->Int
 |[],f=>f
 |c::H,f=>setAt (oV H f) c.1 c.2.1
def oW:List (Nat×Int×Int)->(Nat->Int)->Nat->Int
 |[],f=>f
 |c::H,f=>setAt (oW H f) c.1 c.2.2
theorem Hw(H:List (Nat×Int×Int))(c:Nat×Int×Int)(f:Nat->Int):oV (H++[c]) f=oV H (setAt f c.1 c.2.1):=by
 induction H with
 |nil=>rfl
 |cons d H ih=>show setAt (oV (H++[c]) f) d.1 d.2.1=_;rw[ih];rfl
theorem Hy(H:List (Nat×Int×Int))(c:Nat×Int×Int)(f:Nat->Int):oW (H++[c]) f=oW H (setAt f c.1 c.2.2):=by
 induction H with
 |nil=>rfl
 |cons d H ih=>show setAt (oW (H++[c]) f) d.1 d.2.2=_;rw[ih];rfl
theorem vI(f:Nat->Int)(i:Nat)(v:Int):setAt (setAt f i v) i (f i)=f:=by
 funext x;by_cases e:x=i
 .subst e;rw[eP]
 .rw[eT _ _ e,eT _ _ e]
theorem kD(f:Nat->Int)(i:Nat):setAt f i (f i)=f:=by
 funext x;by_cases e:x=i
 .subst e;rw[eP]
 .rw[eT _ _ e]
theorem aP.QX{w w':World}{X:SX}{lo hi:Nat->Int}{A:Option Addr}{oc:Nat}{H:List (Nat×Int×Int)}{S:Nat->Prop}(h:aP w X lo hi A oc H)(hu:aH S w w')(hT:∀k,S k->∃cs fz,w.heap[k]?=some (.cells cs 3 fz))(hR:∀v,v∈X.vb\/v∈X.va->∀b,v.ownBlock=some b->¬S b):aP w' X lo hi A oc H:=by
 have key:∀{t:TypeId}{b:Nat}{cs:List Value},Own w t b cs->t≠3->¬S b:=λho ht hs=>by
  obtain⟨tl,ho⟩:=ho;obtain⟨cs,fz,h1⟩:=hT _ hs;rw[ho]at h1;injection h1 with h1
  injection h1 with _ h1 _
  exact ht h1
 refine⟨h.uQ.upd hu (key h.uQ.own (by decide)) (λv hv b hb=>hR v (.inl hv) b hb),h.wB.upd hu (key h.wB.own (by decide)) (λv hv b hb=>hR v (.inr hv) b hb),h.Hr,h.Ht,h.box.keep hu (key h.box (by decide)),h.bnd.keep hu (key h.bnd (by decide)),bX h.old hu (λb hb hs=>?_),h.low⟩;obtain⟨cs,fz,h1⟩:=hT _ hs;exact cZ h.old h1 (by decide) hb
def rW(l:List Nat):List Int:=l.map (λx:Nat=>(x:Int))
theorem Kc(l:List Nat)(x:Nat):rW (l++[x])=rW l++[(x:Int)]:=by simp[rW]
theorem BI(l:List Nat):(rW l).length=l.length:=eF _
theorem BJ{l:List Nat}{i x:Nat}(h:l[i]?=some x):(rW l)[i]?=some (x:Int):=by simp[rW,h]
theorem pV.new{X:SX}{w wr w':World}{S:Nat->Prop}(h:pV X w wr)(hu:aH S wr w')(hS:∀k,S k->w.heap.size<=k):pV X w w':=aH.trans h hu (λi hi hs=>by have:=hS i hs;omega)
theorem iD{w:World}{B:Nat}{e:TypeId}{size n:Nat}{v:Value}{xs:List Value}(h:w.ownsRow B e size v n xs):∀k,v.ownBlock=some k->∃cs fz,w.heap[k]?=some (.cells cs e fz):=λk hk=>by
 rcases h.2 with⟨rfl,_⟩|⟨g,cap,cur,rfl,_,hg,_⟩
 .cases hk
 .simp only[Value.ownBlock,Option.some.injEq]at hk
  subst hk;exact⟨_,_,hg⟩
def nD(P:List (Nat×Nat))(y:Nat):List Nat:=(P.filter (λp=>p.1==y)).map (·.2)
theorem Hz{P:List (Nat×Nat)}{y b:Nat}:b∈nD P y↔(y,b)∈P:=by
 unfold nD;simp only[dU,List.mem_filter,beq_iff_eq];constructor
 .rintro⟨⟨p1,p2⟩,⟨h1,rfl⟩,rfl⟩;exact h1
 .exactλh=>⟨(y,b),⟨h,rfl⟩,rfl⟩
theorem H6(P:List (Nat×Nat))(y:Nat):(nD P y).length<=P.length:=by
 unfold nD;rw[eF];exact List.length_filter_le _ _
theorem H7{P:List (Nat×Nat)}{n i:Nat}(h:i<n):(nL P n P.length)[i]?=some (rW (nD P i)):=by
 rw[Ka h,gV];simp[rW,nD]
theorem H8{P:List (Nat×Nat)}{n i:Nat}(h:i<n):(nK P n P.length)[i]?=some (rW (nD (P.map (λp=>(p.2,p.1))) i)):=by
 rw[J_ h,gV];congr 1;unfold rW nD;rw[List.filter_map,List.map_map,List.map_map];rfl
theorem UO(f:Nat->Int)(i:Nat)(v:Int):setAt (λi=> - f i) i (-v)=λj=> - setAt f i v j:=by
 funext x;by_cases e:x=i
 .subst e;rw[eP,eP]
 .rw[eT _ _ e,eT _ _ e]
theorem ZU{n:Nat}{lo hi:Nat->Int}{P:List (Nat×Nat)}(hB:O9 n lo hi P):O9 n (λi=> - hi i) (λi=> - lo i) (P.map (λp=>(p.2,p.1))):=by
 refine⟨λi hn=>by have:=hB.le i hn;omega,λp hp=>?_,λp hp=>?_,λp hp=>?_⟩;all_goals
  obtain⟨q,hq,rfl⟩:=dU.1 hp;simp only
 .have:=hB.clH q hq;omega
 .have:=hB.clL q hq;omega
 .exact⟨(hB.inn q hq).2,(hB.inn q hq).1⟩
def QY(X:SX)(P:List (Nat×Nat))(lo hi:Nat->Int)(H:List (Nat×Int×Int))(a:Nat)(v:Int)(w:World)(e:Ending)(w':World):Prop:=
 ∃(lo' hi':Nat->Int)(A:Option Addr)(oc:Nat)(H2:List (Nat×Int×Int)),e= .returned (.tuple #[])/\aP w' X lo' hi' A oc (H++H2)/\pV X w w'/\H2.length<=2*X.n+1/\oV H2 lo'=lo/\oW H2 hi'=hi/\(∀c∈H2,c.1<X.n)/\
  (∃later,Up X.n lo hi P a v lo' later/\∀y∈later,∀b,(y,b)∈P->v<=lo' b)/\
  ∃earlier,Up X.n (λi=> - hi i) (λi=> - lo i) (P.map (λp=>(p.2,p.1))) a (-v) (λi=> - hi' i) earlier/\∀y∈earlier,∀b,(y,b)∈P.map (λp=>(p.2,p.1))-> -v<= - hi' b
attribute [local go_sem] jS Ga stillUpon bK
theorem QZ(X:SX)(P:List (Nat×Nat))(lo hi:Nat->Int)(A:Option Addr)(oc:Nat)(H:List (Nat×Int×Int))(a:Nat)(v:Int)(w:World)(hS:aP w X lo hi A oc H)(hB:O9 X.n lo hi P)(hLb:X.Lb=nK P X.n P.length)(hLa:X.La=nL P X.n P.length)(ha:a<X.n)(h1:lo a<=v)(h2:v<=hi a)(hn:X.n<=4000)(hP:P.length<=4000)(hH:H.length+2*X.n+1<=1000000):
 Calls Tryz.prog 102 #[.pointer (some ⟨X.sb,0,none⟩),.int .i64 a,.int .i64 v] w (QY X P lo hi H a v w):=by
 have HS:=ah hS;clear hS;have HB:=ah hB;clear hB;have HLB:=ah hLb;clear hLb;have ZV:=ah hLa;clear hLa;have Nc:Hid (∀u,u∈X.vb\/u∈X.va->∀b,u.ownBlock=some b->b<w.heap.size):=λu hu b hb=>by
  rcases hu with hu|hu
  .exact(HS.out.uQ.low u hu b hb).2.1
  .exact(HS.out.wB.low u hu b hb).2.1
 have HST:=ah (Lv X lo hi A oc H a v v w HS.out ha (by omega));have ajn:=ah (Up.start (P:=P) ha h1 h2);have ajo:Hid (Up X.n (λi=> - hi i) (λi=> - lo i) (P.map (λp=>(p.2,p.1))) a (-v) (λi=> - setAt hi a v i) [a]):=by
  have h:=Up.start (n:=X.n) (lo:=λi=> - hi i) (hi:=λi=> - lo i) (P:=P.map (λp=>(p.2,p.1))) (v:= -v) ha (by omega) (by omega);have e:(λi=> - setAt hi a v i)=setAt (λi=> - hi i) a (-v):=by
   funext i;by_cases e:i=a
   .subst e;rw[eP,eP]
   .rw[eT _ _ e,eT _ _ e]
  show Up _ _ _ _ _ _ _ _;rw[e];exact h
 clear h1 h2;obtain⟨H1,hH1⟩:∃H1:List (Nat×Int×Int),H1=(if lo a=v/\hi a=v then[]else[(a,lo a,hi a)]):=⟨_,rfl⟩;have XM:Hid (Calls Tryz.prog 141 #[.pointer (some ⟨X.sb,0,none⟩),.int .i64 a,.agg #[.int .i64 v,.int .i64 v]] w (λe w'=>∃A oc b,e= .returned (.bool b)/\aP w' X (setAt lo a v) (setAt hi a v) A oc (H++H1)/\pV X w w')):=by
  refine HST.out.mono ?_;rintro e w' ⟨A,oc,rfl,h3,h4⟩;refine⟨A,oc,_,rfl,?_,h4⟩;by_cases c:lo a=v/\hi a=v
  .rw[if_pos c,if_pos c,if_pos c]at h3
   rw[hH1,if_pos c,b_];have e1:setAt lo a v=lo:=by rw[<-c.1];exact kD lo a
   have e2:setAt hi a v=hi:=by rw[<-c.2];exact kD hi a
   rw[e1,e2];exact h3
  .rw[if_neg c,if_neg c,if_neg c]at h3
   rw[hH1,if_neg c];exact h3
 have Pn:Hid (H1.length<=1/\oV H1 (setAt lo a v)=lo/\oW H1 (setAt hi a v)=hi/\∀c∈H1,c.1<X.n):=by
  rw[hH1];by_cases c:lo a=v/\hi a=v
  .rw[if_pos c]
   refine⟨by simp,?_,?_⟩
   .show setAt lo a v=lo
    rw[<-c.1];exact kD lo a
   .refine⟨?_,λc hc=>by cases hc⟩
    show setAt hi a v=hi;rw[<-c.2];exact kD hi a
  .rw[if_neg c]
   exact⟨by simp,vI lo a v,vI hi a v,λc hc=>by rw[dZ.1 hc];exact ha⟩
 clear hH1 HST;go_enter Tryz.func102,Tryz.ntmps102;go_wp2_with (go_at_call 141;refine XM.out.mono ?_;rintro e Z ⟨A1,oc1,b1,rfl,hs1,hm1⟩;refine Hid.out ?_);refine ah ?_;have vH:=ah hs1;clear hs1;have Mq:=ah hm1;clear hm1;clear XM HS;go_upto_region 2 with(fail)
 obtain⟨lb,hlb⟩:∃lb,lb=Z.heap.size:=⟨_,rfl⟩;rw[<-hlb];generalize CF:World.alloc _ _=Wb;have hbb:Below Z.heap.size Z Wb:=by rw[<-CF];exact aK (aD _ _) _
 have mG:Hid (Wb.ownsRow w.heap.size 3 1 (.slice (some ⟨lb,0,none⟩) [a].length 1) [a].length (aR (rW [a]))):=by
  refine⟨rfl,.inr ⟨lb,1,#[.int .i64 a],rfl,?_,?_,bH _,by unfold maxLen;omega,rfl,rfl⟩⟩
  .rw[hlb];exact Mq.out.size
  .rw[<-CF,hlb];exact bC Z _
 have HS2:=ah (vH.out.below hbb);have Ag:=ah (Mq.out.trans (pV.of_below hbb));clear CF hbb hlb vH Mq;obtain⟨ii,hii,hiz,his,hib⟩:=info_parts' (P:=Tryz.prog) (t:=3) (z:=some (.int .i64 0)) (s:=1) (b:=8) (by kernel_rfl);have EW:=HB.out;go_wp2
 go_loopg [7,6] X.n (λgk v7 v6 wr=>∃(i:Nat)(loc:Nat->Int)(Hc:List (Nat×Int×Int))(later:List Nat)(A6:Option Addr)(c6:Nat)(A':Option Addr)(UQ:Nat),gk=X.n - i/\i<=later.length/\v7= .int .i64 i/\v6= .slice A6 later.length c6/\Hid (aP wr X loc (setAt hi a v) A' UQ (H++Hc))/\Hid (pV X w wr)/\Hid (wr.ownsRow w.heap.size 3 1 (.slice A6 later.length c6) later.length (aR (rW later)))/\Hid (Up X.n lo hi P a v loc later)/\Hid (∀y∈later.take i,∀b,(y,b)∈P->v<=loc b)/\Hid (oV Hc loc=lo/\oW Hc (setAt hi a v)=hi/\∀c∈Hc,c.1<X.n)/\Hc.length<=later.length)
 case atStart=>exact⟨0,_,H1,[a],_,1,A1,oc1,rfl,aV _,rfl,rfl,HS2,Ag,mG,ajn,(λy hy=>by simp at hy),Pn.out.2,Pn.out.1⟩
 case round=>
  obtain⟨i,loc,Hc,later,A6,c6,A',UQ,eH,hi',rfl,rfl,yU,zJ,qW,E5,Ke,vV,hlc⟩:=hrel;have iB:=ah eH;clear eH HS2 Ag mG;have hll:=E5.out.length;by_cases hlt:i<later.length
  .obtain⟨y,hy⟩:∃y,later[i]?=some y:=⟨_,aT hlt⟩
   have hyn:=E5.out.lt y (cK hy);have hgl:X.La[y]?=some (rW (nD P y)):=by rw[ZV.out];exact H7 hyn
   obtain⟨rA,rc,hva,hrw⟩:=yU.out.wB.get (aV y) hgl;have hRl:=H6 P y;have YP:Hid (∀b,b∈nD P y↔(y,b)∈P):=λb=>Hz;obtain⟨R,HR⟩:∃R,Hid (R=nD P y):=⟨_,rfl⟩;rw[<-HR.out]at hgl hva hrw hRl YP;rw[BI]at hva hrw;obtain⟨g6,hA6,_,YL,_,_,hc6⟩:=ny qW.out (by omega);subst hA6;have x6:∀z:Bl wr,z.val.cell? ⟨g6,i,none⟩=some (.int .i64 y):=λz=>(z.prop.cell (p:=⟨g6,i,none⟩) YL).trans (hc6 i _ (gQ (BJ hy)));have x2:∀z:Bl wr,z.val.cell? ⟨X.sb,2,none⟩=some (.slice (some ⟨X.ab,0,none⟩) X.n X.n):=λz=>(yU.out.below z.prop).box.cell rfl;have xr:∀z:Bl wr,z.val.cell? ⟨X.ab,y,none⟩=some (.slice rA R.length rc):=λz=>(yU.out.below z.prop).wB.own.cell hva;have i1:(i:Int)<(later.length:Int):=by omega
   have y1:(y:Int)<(X.n:Int):=by omega
   have HY:=ah hy;have HVA:=ah hva;clear hrw hc6 hy hva hgl;go_upto_region 5 with(fail)
   change Code.wp _ _ _ _ (Bl.val (⟨wr,aD _ _⟩:Bl wr));generalize(⟨wr,aD _ _⟩:Bl wr)=za;refine aI (by kernel_rfl) (by kernel_rfl) ?_;repeat(go_big_quiet_step (fail))
   refine aS ?_;rintro _ ⟨zb,rfl⟩;have HSD:=ah (yU.out.below zb.prop);have HMD:=ah (zJ.out.trans (pV.of_below zb.prop));have YC:=ah (dM qW.out zb.prop);have Nr:Hid (later.take i=later.take i):=rfl;clear x6 x2 xr yU zJ qW;generalize zb.val=Wd at HSD HMD YC⊢;have hR4:R.length<=4000:=by omega
   go_wp2
   go_loopg [41,6] R.length (λgk v41 v6 wr=>∃(j:Nat)(loc:Nat->Int)(Hc:List (Nat×Int×Int))(later:List Nat)(A6:Option Addr)(c6:Nat)(A':Option Addr)(UQ:Nat),gk=R.length - j/\j<=R.length/\i<later.length/\v41= .int .i64 j/\v6= .slice A6 later.length c6/\Hid (aP wr X loc (setAt hi a v) A' UQ (H++Hc))/\Hid (pV X w wr)/\Hid (wr.ownsRow w.heap.size 3 1 (.slice A6 later.length c6) later.length (aR (rW later)))/\Hid (Up X.n lo hi P a v loc later)/\Hid (∀y∈later.take i,∀b,(y,b)∈P->v<=loc b)/\Hid (later[i]?=some y)/\Hid (∀b∈R.take j,v<=loc b)/\Hid (oV Hc loc=lo/\oW Hc (setAt hi a v)=hi/\∀c∈Hc,c.1<X.n)/\Hc.length<=later.length)
   case atStart=>exact⟨0,loc,Hc,later,_,c6,A',UQ,rfl,aV _,hlt,rfl,rfl,HSD,HMD,YC,E5,Ke,HY,(λb hb=>by simp at hb),vV,hlc⟩
   case round=>
    clear HSD HMD YC E5 Ke HY vV hlc hll Nr hyn i1;obtain⟨j,loc,Hc,later,A6,c6,A',UQ,eH,hj,hil,rfl,rfl,yU,zJ,qW,E5,Ke,HY,HDJ,vV,hlc⟩:=hrel;have Pk:=ah eH;clear eH;have hll:=E5.out.length;by_cases hlj:j<R.length
    .obtain⟨x,hx⟩:∃x,R[j]?=some x:=⟨_,aT hlj⟩
     have hyx:=(YP.out x).1 (cK hx);have hxn:=(HB.out.inn _ hyx).2;simp only at hxn;have hstep:=E5.out.step HB.out (cK HY.out) hyx;have HXJ:=ah hx;have hgl:X.La[y]?=some (rW R):=by rw[ZV.out,HR.out];exact H7 (E5.out.lt y (cK HY.out))
     have hrw:=yU.out.wB.row y _ _ (aV _) HVA.out hgl;rw[BI]at hrw;obtain⟨g,hrA,_,hg,_,_,hcg⟩:=ny hrw (by omega);subst hrA;have x0:wr.cell? ⟨g,j,none⟩=some (.int .i64 x):=hcg j _ (gQ (BJ hx));have x1:wr.cell? ⟨X.sb,0,none⟩=some (.slice (some ⟨X.bb,0,none⟩) X.n X.n):=yU.out.box.cell rfl;have x3:=yU.out.bnd.cell (dR _ _ hxn (j:=0) (by omega));have x4:=yU.out.bnd.cell (dR _ _ hxn (j:=1) (by omega));rw[jW]at x3;have j1:(j:Int)<(R.length:Int):=by omega
     have xn1:(x:Int)<(X.n:Int):=by omega
     clear hrw hcg hx hgl hyx;go_upto_region 9 with(fail)
     generalize CF:World.alloc _ _=Wb;obtain⟨hbb,hxb⟩:=bx1' CF;have q0:Wb.cell? ⟨wr.heap.size,0,none⟩=some (.int .i64 (loc x)):=(aG Wb _ 0 _ _ _ hxb).trans rfl;have q1:Wb.cell? ⟨wr.heap.size,1,none⟩=some (.int .i64 (setAt hi a v x)):=(aG Wb _ 1 _ _ _ hxb).trans rfl;have sO:=ah (yU.out.below hbb);have wC:=ah (zJ.out.trans (pV.of_below hbb));have Mi:=ah (dM qW.out hbb);have hst:=Lv X loc (setAt hi a v) A' UQ (H++Hc) x (max (loc x) v) (setAt hi a v x) Wb sO.out hxn (by simp;omega);clear CF hbb hxb x0 x1 x3 x4 yU zJ qW;have Lx:∀f:Nat->Int,(∀c,loc c<=f c)->v<=f x->Hid (∀b∈R.take (j+1),v<=f b):=λf hf hv b hb=>by
      rw[bS HXJ.out]at hb;rcases jZ.1 hb with hb|hb
      .exact Int.le_trans (HDJ.out b hb) (hf b)
      .rw[dZ.1 hb];exact hv
     rcases hstep with⟨hvx,hmx⟩|⟨hvx,hmx,hnb,UR⟩
     .have c:loc x=max (loc x) v/\setAt hi a v x=setAt hi a v x:=⟨hmx.symm,rfl⟩
      rw[if_pos c,if_pos c,if_pos c,decide_eq_true c]at hst;have HST:=ah hst;have Q0:=Lx loc (λ_=>iL _) hvx;clear hst c hmx Lx;go_wp2_with (go_at_call 141;refine HST.out.mono ?_;rintro e W5 ⟨A5,UU,rfl,hs5,Q5⟩;refine Hid.out ?_);refine ah ?_;have Vz:=ah hs5;have UW:=ah (wC.out.trans Q5);have Mj:=ah (sQ Mi.out Q5 (by unfold Dc;decide));clear hs5 Q5 sO wC Mi HST q0 q1;go_wp2
      go_roundg (R.length - (j+1))
      case measure=>rw[Pk.out];omega
      case rel=>exact⟨j+1,loc,Hc,later,A6,c6,A5,UU,rfl,by omega,hil,by go_num,rfl,Vz,UW,Mj,E5,Ke,HY,Q0,vV,hlc⟩
     .have c:¬(loc x=max (loc x) v/\setAt hi a v x=setAt hi a v x):=λh=>by have:=h.1;omega
      rw[if_neg c,if_neg c,if_neg c,decide_eq_false c]at hst;have HST:=ah hst;have pQ:=ah hmx;have XL:=ah UR;have HGE:Hid (∀c,loc c<=setAt loc x v c):=λc=>by
       by_cases e:c=x
       .subst e;rw[eP];omega
       .rw[eT _ _ e];exact iL _
      have Q0:=Lx (setAt loc x v) HGE.out (by rw[eP];exact iL _);have acU:Hid (∀y∈(later++[x]).take i,∀b,(y,b)∈P->v<=setAt loc x v b):=λy' hy' b hb=>by
       rw[List.take_append_of_le_length (by omega)]at hy';exact Int.le_trans (Ke.out y' hy' b hb) (HGE.out b)
      have XO:Hid ((later++[x])[i]?=some y):=by show _=_;rw[lX hil];exact HY.out
      clear hst c hmx UR Lx hnb;go_wp2_with (first|(go_at_call 141;refine HST.out.mono ?_;rintro e W5 ⟨A5,UU,rfl,hs5,Q5⟩;refine Hid.out ?_)|fail);refine ah ?_;rw[pQ.out,kD]at hs5;have Vz:=ah hs5;have UW:=ah (wC.out.trans Q5);have Mj:=ah (sQ Mi.out Q5 (by unfold Dc;decide));clear hs5 Q5 sO wC Mi HST q0 q1;have hw5:w.heap.size<=W5.heap.size:=UW.out.size;go_wp2_with (at_builtin;refine iI rfl _ _ 22 rfl 3 ii (.int .i64 0) 1 8 Tryz.underlying22 hii hiz his hib rfl (by decide) w.heap.size _ _ _ rfl Mj.out [.int .i64 x] _ rfl rfl (by intro u hu;simp only[dZ]at hu;subst hu;rfl) rfl (by unfold maxLen;omega) (by omega) hw5 ?_;intro g7 c7 w7 hr7 hg7;refine Hid.out ?_);refine ah ?_;have EA:Hid (aH (λk=>(Value.slice A6 later.length c6).ownBlock=some k) W5 w7):=((aH.refl _ W5).alloc _).trans (aH.jm hg7) (λ_ _ h=>h);have HS7:=ah (Vz.out.QX EA.out (iD Mj.out) (λu hu b hb hs=>by have h1:=Nc.out u hu b hb;have h2:=(Mj.out.lt b hs).1;omega));have HM7:=ah (UW.out.new EA.out (λk hk=>(Mj.out.lt k hk).1));have hl7:(later++[x]).length=later.length+1:=by simp
      have HR7:Hid (w7.ownsRow w.heap.size 3 1 (.slice (some ⟨g7,0,none⟩) (later++[x]).length c7) (later++[x]).length (aR (rW (later++[x])))):=by
       show World.ownsRow _ _ _ _ _ _ _;rw[hl7,Kc,nY];exact hr7
      have XP:=ah hl7;have acW:Hid (oV (Hc++[(x,loc x,setAt hi a v x)]) (setAt loc x v)=lo/\oW (Hc++[(x,loc x,setAt hi a v x)]) (setAt hi a v)=hi/\∀c∈Hc++[(x,loc x,setAt hi a v x)],c.1<X.n):=by
       refine⟨?_,?_,?_⟩
       .rw[Hw,vI];exact vV.out.1
       .rw[Hy,kD];exact vV.out.2.1
       .exactλc hc=>(jZ.1 hc).elim (vV.out.2.2 c) (λh=>by rw[dZ.1 h];exact hxn)
      rw[wE]at HS7;clear hr7 hg7 EA Vz UW Mj hl7;go_wp2
      go_roundg (R.length - (j+1))
      case measure=>rw[Pk.out];omega
      case rel=>exact⟨j+1,setAt loc x v,Hc++[(x,loc x,setAt hi a v x)],later++[x],_,c7,A5,UU,rfl,by omega,by rw[XP.out];omega,by go_num,by rw[XP.out],HS7,HM7,HR7,XL,acU,XO,Q0,acW,by rw[XP.out];simp;omega⟩
    .obtain rfl:j=R.length:=by omega
     have acX:Hid (∀y'∈later.take (i+1),∀b,(y',b)∈P->v<=loc b):=λy' hy' b hb=>by
      rw[bS HY.out]at hy';rcases jZ.1 hy' with hy'|hy'
      .exact Ke.out y' hy' b hb
      .rw[dZ.1 hy']at hb
       exact HDJ.out b (by rw[gV];exact(YP.out b).2 hb)
     clear Pk hlj HDJ Ke;go_wp2
     go_roundg (X.n - (i+1))
     case measure=>rw[iB.out];omega
     case rel=>exact⟨i+1,loc,Hc,later,A6,c6,A',UQ,rfl,by omega,by go_num,rfl,yU,zJ,qW,E5,acX,vV,hlc⟩
  .obtain rfl:i=later.length:=by omega
   rw[gV]at Ke;clear iB hlt;have af3:=E5;clear E5;have ajv:=Ke;clear Ke;have af4:=ah (ZU HB.out);go_upto_region 13 with(fail)
   obtain⟨lb,hlb⟩:∃lb,lb=wr.heap.size:=⟨_,rfl⟩;rw[<-hlb];generalize CF:World.alloc _ _=Wb;have hbb:Below wr.heap.size wr Wb:=by rw[<-CF];exact aK (aD _ _) _
   have mG:Hid (Wb.ownsRow w.heap.size 3 1 (.slice (some ⟨lb,0,none⟩) [a].length 1) [a].length (aR (rW [a]))):=by
    refine⟨rfl,.inr ⟨lb,1,#[.int .i64 a],rfl,?_,?_,bH _,by unfold maxLen;omega,rfl,rfl⟩⟩
    .rw[hlb];exact zJ.out.size
    .rw[<-CF,hlb];exact bC wr _
   have HS2:=ah (yU.out.below hbb);have Ag:=ah (zJ.out.trans (pV.of_below hbb));have ajw:=vV;clear vV;clear CF hbb hlb yU zJ qW hi';go_wp2
   go_loopg [12,11] X.n (λgk v12 v11 wr=>∃(i:Nat)(hic:Nat->Int)(Hd:List (Nat×Int×Int))(earlier:List Nat)(A6:Option Addr)(c6:Nat)(A':Option Addr)(UQ:Nat),gk=X.n - i/\i<=earlier.length/\v12= .int .i64 i/\v11= .slice A6 earlier.length c6/\Hid (aP wr X loc hic A' UQ (H++Hd))/\Hid (pV X w wr)/\Hid (wr.ownsRow w.heap.size 3 1 (.slice A6 earlier.length c6) earlier.length (aR (rW earlier)))/\Hid (Up X.n (λi=> - hi i) (λi=> - lo i) (P.map (λp=>(p.2,p.1))) a (-v) (λi=> - hic i) earlier)/\Hid (∀y∈earlier.take i,∀b,(y,b)∈P.map (λp=>(p.2,p.1))-> -v<= - hic b)/\Hid (oV Hd loc=lo/\oW Hd hic=hi/\∀c∈Hd,c.1<X.n)/\Hd.length<=Hc.length+earlier.length)
   case atStart=>exact⟨0,_,Hc,[a],_,1,A',UQ,rfl,aV _,rfl,rfl,HS2,Ag,mG,ajo,(λy hy=>by simp at hy),ajw,Nat.le_add_right _ _⟩
   case round=>
    obtain⟨i,hic,Hd,earlier,A6,c6,A2,XQ,eH,hi',rfl,rfl,yU,zJ,qW,E5,Ke,vV,hlc⟩:=hrel;have iB:=ah eH;clear eH HS2 Ag mG;have hll:=E5.out.length;by_cases hlt:i<earlier.length
    .obtain⟨y,hy⟩:∃y,earlier[i]?=some y:=⟨_,aT hlt⟩
     have hyn:=E5.out.lt y (cK hy);have hgl:X.Lb[y]?=some (rW (nD (P.map (λp=>(p.2,p.1))) y)):=by rw[HLB.out];exact H8 hyn
     obtain⟨rA,rc,hva,hrw⟩:=yU.out.uQ.get (aV y) hgl;have hRl:=H6 (P.map (λp=>(p.2,p.1))) y;have YP:Hid (∀b,b∈nD (P.map (λp=>(p.2,p.1))) y↔(y,b)∈P.map (λp=>(p.2,p.1))):=λb=>Hz;obtain⟨R,HR⟩:∃R,Hid (R=nD (P.map (λp=>(p.2,p.1))) y):=⟨_,rfl⟩;rw[<-HR.out]at hgl hva hrw hRl YP;rw[BI]at hva hrw;rw[eF]at hRl;obtain⟨g6,hA6,_,YL,_,_,hc6⟩:=ny qW.out (by omega);subst hA6;have x6:∀z:Bl wr,z.val.cell? ⟨g6,i,none⟩=some (.int .i64 y):=λz=>(z.prop.cell (p:=⟨g6,i,none⟩) YL).trans (hc6 i _ (gQ (BJ hy)));have x2:∀z:Bl wr,z.val.cell? ⟨X.sb,1,none⟩=some (.slice (some ⟨X.rb,0,none⟩) X.n X.n):=λz=>(yU.out.below z.prop).box.cell rfl;have xr:∀z:Bl wr,z.val.cell? ⟨X.rb,y,none⟩=some (.slice rA R.length rc):=λz=>(yU.out.below z.prop).uQ.own.cell hva;have i1:(i:Int)<(earlier.length:Int):=by omega
     have y1:(y:Int)<(X.n:Int):=by omega
     have HY:=ah hy;have HVA:=ah hva;clear hrw hc6 hy hva hgl;go_upto_region 16 with(fail)
     change Code.wp _ _ _ _ (Bl.val (⟨wr,aD _ _⟩:Bl wr));generalize(⟨wr,aD _ _⟩:Bl wr)=za;refine aI (by kernel_rfl) (by kernel_rfl) ?_;repeat(go_big_quiet_step (fail))
     refine aS ?_;rintro _ ⟨zb,rfl⟩;have HSD:=ah (yU.out.below zb.prop);have HMD:=ah (zJ.out.trans (pV.of_below zb.prop));have YC:=ah (dM qW.out zb.prop);have Nr:Hid (earlier.take i=earlier.take i):=rfl;clear x6 x2 xr yU zJ qW;generalize zb.val=Wd at HSD HMD YC⊢;have hR4:R.length<=4000:=by omega
     go_wp2
     go_loopg [86,11] R.length (λgk v86 v11 wr=>∃(j:Nat)(hic:Nat->Int)(Hd:List (Nat×Int×Int))(earlier:List Nat)(A6:Option Addr)(c6:Nat)(A':Option Addr)(UQ:Nat),gk=R.length - j/\j<=R.length/\i<earlier.length/\v86= .int .i64 j/\v11= .slice A6 earlier.length c6/\Hid (aP wr X loc hic A' UQ (H++Hd))/\Hid (pV X w wr)/\Hid (wr.ownsRow w.heap.size 3 1 (.slice A6 earlier.length c6) earlier.length (aR (rW earlier)))/\Hid (Up X.n (λi=> - hi i) (λi=> - lo i) (P.map (λp=>(p.2,p.1))) a (-v) (λi=> - hic i) earlier)/\Hid (∀y∈earlier.take i,∀b,(y,b)∈P.map (λp=>(p.2,p.1))-> -v<= - hic b)/\Hid (earlier[i]?=some y)/\Hid (∀b∈R.take j, -v<= - hic b)/\Hid (oV Hd loc=lo/\oW Hd hic=hi/\∀c∈Hd,c.1<X.n)/\Hd.length<=Hc.length+earlier.length)
     case atStart=>exact⟨0,hic,Hd,earlier,_,c6,A2,XQ,rfl,aV _,hlt,rfl,rfl,HSD,HMD,YC,E5,Ke,HY,(λb hb=>by simp at hb),vV,hlc⟩
     case round=>
      clear HSD HMD YC E5 Ke HY vV hlc hll Nr hyn i1;obtain⟨j,hic,Hd,earlier,A6,c6,A2,XQ,eH,hj,hil,rfl,rfl,yU,zJ,qW,E5,Ke,HY,HDJ,vV,hlc⟩:=hrel;have Pk:=ah eH;clear eH;have hll:=E5.out.length;by_cases hlj:j<R.length
      .obtain⟨x,hx⟩:∃x,R[j]?=some x:=⟨_,aT hlj⟩
       have hyx:=(YP.out x).1 (cK hx);have hxn:=(af4.out.inn _ hyx).2;simp only at hxn;have hstep:=E5.out.step af4.out (cK HY.out) hyx;have HXJ:=ah hx;have hgl:X.Lb[y]?=some (rW R):=by rw[HLB.out,HR.out];exact H8 (E5.out.lt y (cK HY.out))
       have hrw:=yU.out.uQ.row y _ _ (aV _) HVA.out hgl;rw[BI]at hrw;obtain⟨g,hrA,_,hg,_,_,hcg⟩:=ny hrw (by omega);subst hrA;have x0:wr.cell? ⟨g,j,none⟩=some (.int .i64 x):=hcg j _ (gQ (BJ hx));have x1:wr.cell? ⟨X.sb,0,none⟩=some (.slice (some ⟨X.bb,0,none⟩) X.n X.n):=yU.out.box.cell rfl;have x3:=yU.out.bnd.cell (dR _ _ hxn (j:=0) (by omega));have x4:=yU.out.bnd.cell (dR _ _ hxn (j:=1) (by omega));rw[jW]at x3;have j1:(j:Int)<(R.length:Int):=by omega
       have xn1:(x:Int)<(X.n:Int):=by omega
       clear hrw hcg hx hgl hyx;go_upto_region 20 with(fail)
       generalize CF:World.alloc _ _=Wb;obtain⟨hbb,hxb⟩:=bx1' CF;have q0:Wb.cell? ⟨wr.heap.size,0,none⟩=some (.int .i64 (loc x)):=(aG Wb _ 0 _ _ _ hxb).trans rfl;have q1:Wb.cell? ⟨wr.heap.size,1,none⟩=some (.int .i64 (hic x)):=(aG Wb _ 1 _ _ _ hxb).trans rfl;have sO:=ah (yU.out.below hbb);have wC:=ah (zJ.out.trans (pV.of_below hbb));have Mi:=ah (dM qW.out hbb);have hst:=Lv X loc hic A2 XQ (H++Hd) x (loc x) (min (hic x) v) Wb sO.out hxn (by simp;omega);clear CF hbb hxb x0 x1 x3 x4 yU zJ qW;have Lx:∀f:Nat->Int,(∀c,f c<=hic c)-> -v<= - f x->Hid (∀b∈R.take (j+1), -v<= - f b):=λf hf hv b hb=>by
        rw[bS HXJ.out]at hb;rcases jZ.1 hb with hb|hb
        .have h3:=HDJ.out b hb;have h4:=hf b;omega
        .rw[dZ.1 hb];exact hv
       rcases hstep with⟨hvx,hmx⟩|⟨hvx,hmx,hnb,UR⟩
       .have c:loc x=loc x/\hic x=min (hic x) v:=⟨rfl,by omega⟩
        rw[if_pos c,if_pos c,if_pos c,decide_eq_true c]at hst;have HST:=ah hst;have Q0:=Lx hic (λ_=>iL _) hvx;clear hst c hmx Lx;go_wp2_with (go_at_call 141;refine HST.out.mono ?_;rintro e W5 ⟨A5,UU,rfl,hs5,Q5⟩;refine Hid.out ?_);refine ah ?_;have Vz:=ah hs5;have UW:=ah (wC.out.trans Q5);have Mj:=ah (sQ Mi.out Q5 (by unfold Dc;decide));clear hs5 Q5 sO wC Mi HST q0 q1;go_wp2
        go_roundg (R.length - (j+1))
        case measure=>rw[Pk.out];omega
        case rel=>exact⟨j+1,hic,Hd,earlier,A6,c6,A5,UU,rfl,by omega,hil,by go_num,rfl,Vz,UW,Mj,E5,Ke,HY,Q0,vV,hlc⟩
       .have c:¬(loc x=loc x/\hic x=min (hic x) v):=λh=>by have:=h.2;omega
        rw[if_neg c,if_neg c,if_neg c,decide_eq_false c]at hst;have HST:=ah hst;have pQ:Hid (min (hic x) v=v):=by show _=_;omega
        rw[UO]at UR;have XL:=ah UR;have HGE:Hid (∀c,setAt hic x v c<=hic c):=λc=>by
         by_cases e:c=x
         .subst e;rw[eP];omega
         .rw[eT _ _ e];exact iL _
        have Q0:=Lx (setAt hic x v) HGE.out (by rw[eP];exact iL _);have acU:Hid (∀y∈(earlier++[x]).take i,∀b,(y,b)∈P.map (λp=>(p.2,p.1))-> -v<= - setAt hic x v b):=λy' hy' b hb=>by
         rw[List.take_append_of_le_length (by omega)]at hy';have h3:=Ke.out y' hy' b hb;have h4:=HGE.out b;omega
        have XO:Hid ((earlier++[x])[i]?=some y):=by show _=_;rw[lX hil];exact HY.out
        clear hst c hmx UR Lx hnb;go_wp2_with (first|(go_at_call 141;refine HST.out.mono ?_;rintro e W5 ⟨A5,UU,rfl,hs5,Q5⟩;refine Hid.out ?_)|fail);refine ah ?_;rw[pQ.out,kD]at hs5;have Vz:=ah hs5;have UW:=ah (wC.out.trans Q5);have Mj:=ah (sQ Mi.out Q5 (by unfold Dc;decide));clear hs5 Q5 sO wC Mi HST q0 q1;have hw5:w.heap.size<=W5.heap.size:=UW.out.size;go_wp2_with (at_builtin;refine iI rfl _ _ 22 rfl 3 ii (.int .i64 0) 1 8 Tryz.underlying22 hii hiz his hib rfl (by decide) w.heap.size _ _ _ rfl Mj.out [.int .i64 x] _ rfl rfl (by intro u hu;simp only[dZ]at hu;subst hu;rfl) rfl (by unfold maxLen;omega) (by omega) hw5 ?_;intro g7 c7 w7 hr7 hg7;refine Hid.out ?_);refine ah ?_;have EA:Hid (aH (λk=>(Value.slice A6 earlier.length c6).ownBlock=some k) W5 w7):=((aH.refl _ W5).alloc _).trans (aH.jm hg7) (λ_ _ h=>h);have HS7:=ah (Vz.out.QX EA.out (iD Mj.out) (λu hu b hb hs=>by have h1:=Nc.out u hu b hb;have h2:=(Mj.out.lt b hs).1;omega));have HM7:=ah (UW.out.new EA.out (λk hk=>(Mj.out.lt k hk).1));have hl7:(earlier++[x]).length=earlier.length+1:=by simp
        have HR7:Hid (w7.ownsRow w.heap.size 3 1 (.slice (some ⟨g7,0,none⟩) (earlier++[x]).length c7) (earlier++[x]).length (aR (rW (earlier++[x])))):=by
         show World.ownsRow _ _ _ _ _ _ _;rw[hl7,Kc,nY];exact hr7
        have XP:=ah hl7;have acW:Hid (oV (Hd++[(x,loc x,hic x)]) loc=lo/\oW (Hd++[(x,loc x,hic x)]) (setAt hic x v)=hi/\∀c∈Hd++[(x,loc x,hic x)],c.1<X.n):=by
         refine⟨?_,?_,?_⟩
         .rw[Hw,kD];exact vV.out.1
         .rw[Hy,vI];exact vV.out.2.1
         .exactλc hc=>(jZ.1 hc).elim (vV.out.2.2 c) (λh=>by rw[dZ.1 h];exact hxn)
        rw[wE]at HS7;clear hr7 hg7 EA Vz UW Mj hl7;go_wp2
        go_roundg (R.length - (j+1))
        case measure=>rw[Pk.out];omega
        case rel=>exact⟨j+1,setAt hic x v,Hd++[(x,loc x,hic x)],earlier++[x],_,c7,A5,UU,rfl,by omega,by rw[XP.out];omega,by go_num,by rw[XP.out],HS7,HM7,HR7,XL,acU,XO,Q0,acW,by rw[XP.out];simp;omega⟩
      .obtain rfl:j=R.length:=by omega
       have acX:Hid (∀y'∈earlier.take (i+1),∀b,(y',b)∈P.map (λp=>(p.2,p.1))-> -v<= - hic b):=λy' hy' b hb=>by
        rw[bS HY.out]at hy';rcases jZ.1 hy' with hy'|hy'
        .exact Ke.out y' hy' b hb
        .rw[dZ.1 hy']at hb
         exact HDJ.out b (by rw[gV];exact(YP.out b).2 hb)
       clear Pk hlj HDJ Ke;go_wp2
       go_roundg (X.n - (i+1))
       case measure=>rw[iB.out];omega
       case rel=>exact⟨i+1,hic,Hd,earlier,A6,c6,A2,XQ,rfl,by omega,by go_num,rfl,yU,zJ,qW,E5,acX,vV,hlc⟩
    .obtain rfl:i=earlier.length:=by omega
     rw[gV]at Ke;clear iB hlt;have hlf:=af3.out.length;go_wp2;refine bodyPost_ret (v:=.tuple #[]) (by simp[results,Tryz.results102,go_sem]) rfl ⟨loc,hic,A2,XQ,Hd,rfl,yU.out,zJ.out,by omega,vV.out.1,vV.out.2.1,vV.out.2.2,⟨later,af3.out,ajv.out⟩,earlier,E5.out,Ke.out⟩
end Go.Proofs.YtpmdedcnbockhaaGreatDoor

/- part -/
import Derived.Test.YtpmdedcnbockhaaGreatDoorS16
set_option maxRecDepth 100000
set_option maxHeartbeats 8000000
namespace Go.Proofs.YtpmdedcnbockhaaGreatDoor
section
open Go.RowKit Go.Shelf Tryz
attribute [local go_sem] Oper.semAt_some AA kT
theorem adb{w0 w:World}{g:Nat}{v:CV}{C:au}{t:TV}{s:ak}{gh gu gm:Nat}(h:aH w0 w g v C t s gh gu gm)(i:Nat)(a:jy)(ha:C.acts[i]?=some a)(hk1:(a.kind !=1)=true)(Rf:s.used[i]?=some true)(hgi:0<=a.give/\a.give<s.aj.length)(hlen:s.marks.length=C.clauses.length)
 (hin:∀k∈C.clauses,∀c∈k.start,0<=c.clause/\c.clause<C.clauses.length)(hro:∀k∈C.clauses,k.kind≠4->0<=k.role/\k.role<s.aj.length)
 (hki:∀k∈C.clauses,1<=k.kind/\k.kind<=4)(har:a.role≠ -1->0<=a.role/\a.role<s.aj.length)(hgo:∀m∈s.marks,m.runs=true->0<=m.got/\m.got<=1000000):
 Calls prog 70 #[.pointer (some ⟨g,0,none⟩),.int .i64 i] w (xE w0 g v C t (C.act i a s) gh gu gm w):=by
 have hia:i<C.acts.length:=(bB.1 ha).1;obtain⟨b,mO,hA,hbl,hac⟩:=h.con.act ha;obtain⟨⟨dV,dW⟩,⟨dX,dY⟩,⟨fB,dH⟩,⟨eZ,dM⟩,⟨dQ,dR⟩⟩:=v;simp only at hA;subst hA;obtain⟨eP,Jp,_⟩:=h.marks.Qb;obtain⟨n_,huA,huc⟩:∃off,t.u.A=some ⟨gu,off,none⟩/\w.cell? ⟨gu,off+i,none⟩=some (.bool true):=by
  obtain⟨off,h1,_,_,h2,h3,h4⟩:=h.used.Qb;have hi2:i<s.used.length:=(bB.1 Rf).1;exact⟨off,h1,by rw[h3 i (by omega)];simp[fM,Rf]⟩
 obtain⟨⟨eu,dN⟩,⟨eH,dL⟩,⟨fF,bY⟩⟩:=t;simp only at Jp;subst Jp;simp only at huA;subst huA;obtain⟨day,aj,used,ms⟩:=s;simp only at hlen hro har hgo;obtain⟨ki,ro,gi,tg,un,⟨ln,ld⟩⟩:=a;simp only at hk1 har;simp only at Rf hgi;have hiu:i<used.length:=(bB.1 Rf).1;have g3:w.cell? ⟨g,3,none⟩=some (.slice (some ⟨b,mO,none⟩) C.acts.length dH):=h.cell 3;have BX:=hac w h.below;obtain⟨a0,a1,a2,a3,a4,a5,a6⟩:=rw7 BX rfl;clear hac BX;have hgl:=aB h.head;have dh:b<w.heap.size:=uH hbl h.below.size;have i0:(0:Int)<=(i:Int):=by omega
 have i1:(i:Int)<(C.acts.length:Int):=by omega
 have H:=ah h;clear h;have HA:=ah ha;clear ha;have HL:=ah hlen;clear hlen;have uE:=ah hin;clear hin;have rT:=ah hro;clear hro;have Tz:=ah hki;clear hki;have HAR:=ah har;clear har;have HGO:=ah hgo;clear hgo;have HUS:=ah Rf;clear Rf;have Yf:=ah hgi;clear hgi;have HK1:=ah hk1;clear hk1;have i2:(i:Int)<(used.length:Int):=by omega
 refine(fq (n:=3)).1 ?_;refine callsIn_of_wp_marks func70 rfl trivial ?_ rfl;simp only[ntmps70,uF,gV,kM,Nat.reduceAdd,Nat.reduceSub,wz,wB,wE,wC,pE,wD];gi_wp2;obtain⟨W0,HW0⟩:∃W0,Hid (W0=(w.alloc (.cells #[.pointer (some ⟨g,0,none⟩)] 126)).alloc (.cells #[.int .i64 i] 3)):=⟨_,rfl⟩;rw[<-HW0.out];have HB0:Hid (Below w.heap.size w W0):=by
  show Below _ _ _;rw[HW0.out];exact aJ (aJ (aC _ _) _) _
 have hs0:W0.heap.size=w.heap.size+2:=by rw[HW0.out];simp
 have o0:W0.cell? ⟨w.heap.size,0,none⟩=some (.pointer (some ⟨g,0,none⟩)):=by
  have h:W0.heap[w.heap.size]?=some (.cells #[.pointer (some ⟨g,0,none⟩)] 126 (0,0)):=by
   rw[HW0.out];exact(Below.heap_alloc _ _ _ (by simp)).trans (bK w _)
  exact(aK W0 _ 0 _ _ _ h).trans rfl
 have o1:W0.cell? ⟨w.heap.size+1,0,none⟩=some (.int .i64 i):=by
  have h:W0.heap[w.heap.size+1]?=some (.cells #[.int .i64 i] 3 (0,0)):=by
   rw[HW0.out];have h:=bK (w.alloc (.cells #[.pointer (some ⟨g,0,none⟩)] 126)) (.cells #[.int .i64 i] 3);rw[aT]at h;exact h
  exact(aK W0 _ 0 _ _ _ h).trans rfl
 have g3':=((aL HB0.out).1 _ _ hgl).trans g3;have a0':=((aL HB0.out).1 _ _ dh).trans a0;have a1':=((aL HB0.out).1 _ _ dh).trans a1;have a2':=((aL HB0.out).1 _ _ dh).trans a2;have a3':=((aL HB0.out).1 _ _ dh).trans a3;have a4':=((aL HB0.out).1 _ _ dh).trans a4;have a5':=((aL HB0.out).1 _ _ dh).trans a5;have a6':=((aL HB0.out).1 _ _ dh).trans a6;have X_:g<W0.heap.size:=by omega
 have Ya:b<W0.heap.size:=by omega
 have Ol:w.heap.size<W0.heap.size:=by omega
 have Om:w.heap.size+1<W0.heap.size:=by omega
 clear g3 a0 a1 a2 a3 a4 a5 a6;have zR:=ah hs0;clear hs0
 gi_region
 obtain⟨W1,HW1⟩:∃W1,Hid (W1=(W0.alloc (.cells #[.int .i64 ki,.int .i64 ro,.int .i64 gi,.int .i64 tg,.int .i64 un,.int .i64 ln,.int .i64 ld] 109)).drew):=⟨_,rfl⟩;rw[<-HW1.out];have HB1:Hid (Below w.heap.size w W1):=by
  show Below _ _ _;rw[HW1.out];exact(aJ HB0.out _).drew
 have H7:Below W0.heap.size W0 W1:=by
  rw[HW1.out];exact(aJ (aC _ _) _).drew
 have hs0:=zR.out;have hW1:aH w0 W1 g ⟨⟨dV,dW⟩,⟨dX,dY⟩,⟨some ⟨b,mO,none⟩,dH⟩,⟨eZ,dM⟩,⟨dQ,dR⟩⟩ C ⟨⟨eu,dN⟩,⟨some ⟨gu,n_,none⟩,dL⟩,⟨some ⟨gm,eP,none⟩,bY⟩⟩ ⟨day,aj,used,ms⟩ gh gu gm:=H.out.on HB1.out;have hs1:W1.heap.size=w.heap.size+3:=by rw[HW1.out];simp[hs0]
 have p0:=((aL H7).1 _ _ Ol).trans o0;have p1:=((aL H7).1 _ _ Om).trans o1;have p2:W1.cell? ⟨w.heap.size+2,0,none⟩=some (.int .i64 ki):=by
  have h:W1.heap[w.heap.size+2]?=some (.cells #[.int .i64 ki,.int .i64 ro,.int .i64 gi,.int .i64 tg,.int .i64 un,.int .i64 ln,.int .i64 ld] 109 (0,0)):=by
   have h:=bK W0 (.cells #[.int .i64 ki,.int .i64 ro,.int .i64 gi,.int .i64 tg,.int .i64 un,.int .i64 ln,.int .i64 ld] 109);rw[hs0]at h;rw[HW1.out];exact h
  exact(aK W1 _ 0 _ _ _ h).trans rfl
 rw[hs0];clear g3' a0' a1' a2' a3' a4' a5' a6' o0 o1 X_ Ya Ol Om H7 HW0 HB0 zR hs0;have u0:W1.cell? ⟨gu,n_+i,none⟩=some (.bool true):=by
  obtain⟨cur,hcur⟩:=H.out.used.fC;rw[(aL HB1.out).1 _ _ (aB hcur)];exact huc
 have k9:W1.cell? ⟨g,9,none⟩=some (.slice (some ⟨gu,n_,none⟩) used.length dL):=hW1.cell 9;have hk1:=HK1.out;clear huc;clear i0 i1;gi_wp2;refine aR 12 (jV.wide _) ?_;simp only[gF,bW,gI,b_];repeat(go_big_quiet_step (fail))
 refine aY ?_;rintro _ ⟨mq,rfl⟩;gi_wp2;refine⟨_,results_none rfl _ _ _,rfl,?_,?_⟩
 .simp only[au.act,HK1.out,Bool.true_and,show used.getD i false=true by rw[F3,HUS.out];rfl,cond_true]
  exact hW1.keep ((aG.refl _ _).drewN mq)
 .show w.heap.size<=W1.heap.size
  omega
theorem aaF{w0 w:World}{g:Nat}{v:CV}{C:au}{t:TV}{s:ak}{gh gu gm:Nat}(h:aH w0 w g v C t s gh gu gm)(i:Nat)(a:jy)(ha:C.acts[i]?=some a)(hiu:i<s.used.length)(hgi:a.kind≠1->0<=a.give/\a.give<s.aj.length)(hlen:s.marks.length=C.clauses.length)
 (hin:∀k∈C.clauses,∀c∈k.start,0<=c.clause/\c.clause<C.clauses.length)(hro:∀k∈C.clauses,k.kind≠4->0<=k.role/\k.role<s.aj.length)
 (hki:∀k∈C.clauses,1<=k.kind/\k.kind<=4)(har:a.role≠ -1->0<=a.role/\a.role<s.aj.length)(hgo:∀m∈s.marks,m.runs=true->0<=m.got/\m.got<=1000000):
 Calls prog 70 #[.pointer (some ⟨g,0,none⟩),.int .i64 i] w (xE w0 g v C t (C.act i a s) gh gu gm w):=by
 by_cases hk:a.kind=1
 .exact ac7 h i a ha hk hlen hin hro hki har hgo
 .have hk1:(a.kind !=1)=true:=by simpa using hk
  cases hu:s.used[i]with
  |false=>exact ada h i a ha hk1 (by rw[aS hiu,hu]) (hgi hk) hlen hin hro hki har hgo
  |true=>exact adb h i a ha hk1 (by rw[aS hiu,hu]) (hgi hk) hlen hin hro hki har hgo
end
section
open Go.RowKit Tryz
def vT(W0:World)(e:TypeId)(n:Nat)(cs:Array Value):bP:=
 ⟨λv=>∃b,W0.heap.size<=b/\v= .slice (some ⟨b,0,none⟩) n n,λv z=>∀b,v= .slice (some ⟨b,0,none⟩) n n->z.heap[b]?=some (.cells cs e (0,0))⟩
theorem mh(W0:World)(e:TypeId)(n:Nat)(cs:Array Value):(vT W0 e n cs).Keeps:=λv z z' h hb b hv=>by
 have h1:=h b hv;rw[hb.block b (aB h1)];exact h1
section
variable {P:Program} {W0:World}
theorem uU{o:Oper}{a:Act}(t:TypeId)(l c:Operand)(hop:o.op=Op.makeSlice t l c)(e:TypeId)(i:TypeInfo)(z:Value)(size:Nat)(ht:P.underlying t=some (.slice e))(hi:P.info? e=some i)(hz:i.zero=some z)(hsz:i.size=size)
 (n:Nat)(hl:a.eval l= .int .i64 (n:Int))(hc:a.eval c= .int .i64 (n:Int))(hb:i.bytes*n<=281474976710656)(h63:n<=9223372036854775807):
 ∀w:Bl W0,bM P w.val (vT W0 e n (madeCells z.cells (n*size))) ((execOp a.eval o).run P w.val):=by
 subst hsz;intro w;have hb':(i.bytes:Int)*(n:Int)<=281474976710656:=by
  have h:((i.bytes*n:Nat):Int)<=281474976710656:=by omega
  rwa [Int.natCast_mul]at h
 have hr:=run_make (P:=P) w.val t e i z ht hi hz .i64 .i64 n n (by omega) (iY _) hb' (by omega);simp only[sM]at hr;simp only[execOp,hop,hl,hc,Sem.run_bind,hr,Result.andThen_ok,Sem.run_pure];refine⟨⟨w.val.heap.size,w.prop.size,rfl⟩,?_,aJ (aC _ _) _⟩;intro b hv;simp only[Value.slice.injEq,Option.some.injEq,Addr.mk.injEq,and_true]at hv;subst hv;exact bK w.val _
end
theorem fu.of_block{w:World}{e:TypeId}{size n g:Nat}{cs:Array Value}(hg:w.heap[g]?=some (.cells cs e (0,0)))(hs:cs.size=n*size)(hn:n<=maxLen):fu w e size (.slice (some ⟨g,0,none⟩) n n) n cs.toList (some g):=
 ⟨by simpa using hs,.inr ⟨g,0,n,cs,rfl,rfl,hg,bJ _,hn,by omega,by rw[b_,zY (by simp[hs])]⟩⟩
section
variable {P:Program} (w:World)
theorem run_copy_row(dT ty e:TypeId)(i:TypeInfo)(size:Nat)(hu:P.underlying dT=some (.slice e))(hi:P.info? e=some i)(hsz:i.size=size){g n c:Nat}{A:Option Addr}{xs ys:List Value}
 (hrow:fu w e size (.slice (some ⟨g,0,none⟩) n n) n ys (some g))(hsrc:Src w size A n xs):
 ∃w',(Builtin.copy_ #[dT,dT] ty #[.slice (some ⟨g,0,none⟩) n n,.slice A n c]).run P w= .ok (goInt n) w'/\fu w' e size (.slice (some ⟨g,0,none⟩) n n) n xs (some g)/\aG (λk=>k=g) w w':=by
 subst hsz;rcases hrow.2 with⟨h0,_,_⟩|⟨g',off,cap,cur,hb,hv,hg,h1,h2,h3,h4⟩
 .cases h0
 .injection hv with e1 _ e3
  injection e1 with e1
  injection e1 with e1 e4
  subst e1 e4 e3;rcases Nat.eq_zero_or_pos n with hn|hn
  .subst hn
   have hx:xs=[]:=wZ (by simpa using hsrc.1);subst hx;have hy:ys=[]:=wZ (by simpa using hrow.1);subst hy;refine⟨w,?_,hrow,aG.refl _ _⟩;cases A<;>simp[Builtin.copy_,run_underlying hu,Builtin.lenOf,Builtin.firstCells,sizeOf,typeInfo,hi,loadCells,loadCellsFrom,storeCells]
  .obtain⟨a,rfl,hc⟩:=hsrc.2.2 hn
   have hl:=hsrc.1;have hfit:0+xs.length<=cur.size:=by rw[hl];omega
   refine⟨_,Jv w dT dT ty e i hu hi g 0 n n a n c cur e xs n (by simp) hg hl hc hfit hsrc.2.1,?_,(aG.refl (λk=>k=g) w).setRow (.inl rfl) _⟩;refine⟨hl,.inr ⟨g,0,n,_,rfl,rfl,setRow_heap w g cur _ e _ hg,h1,h2,?_,?_⟩⟩
   .simp only[uF,mU,pz,List.length_drop,Array.length_toList]
    omega
   .simp only[bW,pE,b_]
    rw[<-hl];exact List.take_left
end
theorem nP{F:Fence}{n:Nat}{P:Program}(w:World){ops:Array Oper}{rest:List Oper}{o:Oper}{a:Act}{Q:Exit->Act->World->Prop}
 (hgd:o.guard=none)(d s:Operand)(t:TypeId)(hop:o.op=Op.call {callee:=Callee.builtin Builtin.copy,args:=#[d,s],argTypes:=#[t,t]})
 (e:TypeId)(i:TypeInfo)(size:Nat)(hu:P.underlying t=some (.slice e))(hi:P.info? e=some i)(hsz:i.size=size){g k c:Nat}{A:Option Addr}{xs ys:List Value}
 (hd:a.eval d= .slice (some ⟨g,0,none⟩) k k)(hs:a.eval s= .slice A k c)
 (hrow:fu w e size (.slice (some ⟨g,0,none⟩) k k) k ys (some g))(hsrc:Src w size A k xs)
 (hK:∀w',fu w' e size (.slice (some ⟨g,0,none⟩) k k) k xs (some g)->aG (λb=>b=g) w w'->wpListIn F n P ops Q rest (a.put o.dst (goInt k)) w'):
 wpListIn F n P ops Q (o::rest) a w:=by
 refine wpListIn_plain hgd λK hK'=>?_;obtain⟨w',hrun,r1,r2⟩:=run_copy_row (P:=P) (c:=c) w t o.type e i size hu hi hsz hrow hsrc;unfold Oper.wpIn;refine⟨?_,?_⟩
 .simp[Oper.about,hop,resolve,Target.leads,Sem.run_pure]
 .rw[Oper.semAt_plain F _ _ (by rw[hop];intro c hc';cases hc')]
  simp[execOp,hop,resolve,invoke,builtin,hd,hs,hrun,Result.andThen];exact hK' _ _ (hK w' r1 r2)
section
variable {w0 w w':World} {g:Nat} {v:CV} {C:au} {t:TV} {s:ak} {gh gu gm:Nat}
theorem aH.Rh(h:aH w0 w g v C t s gh gu gm)(hs:List Int)(hl:hs.length=s.aj.length)
 (hrow:fu w' 3 1 (.slice t.h.A s.aj.length t.h.c) s.aj.length (aZ hs) (some gh))(hu:aG (λk=>k=gh) w w'):aH w0 w' g v C t ⟨s.day,hs,s.used,s.marks⟩ gh gu gm:=
 ⟨by simpa [hl]using hu.keep h.head h.Tv,h.con,h.below.trans (hu.below h.below.size (λk hk=>by rw[hk];exact h.newH)),by simpa [hl]using hrow,
  h.used.keep hu (λk hk e=>by injection hk with hk;subst hk;exact h.used.kC h.aj (by decide) e),
  h.marks.keep hu (λk hk e=>by injection hk with hk;subst hk;exact h.marks.kC h.aj (by decide) e),h.newG,h.newH,h.Aw,h.uL⟩
theorem aH.aaG(h:aH w0 w g v C t s gh gu gm)(us:List Bool)(hl:us.length=s.used.length)
 (hrow:fu w' 4 1 (.slice t.u.A s.used.length t.u.c) s.used.length (fM us) (some gu))(hu:aG (λk=>k=gu) w w'):aH w0 w' g v C t ⟨s.day,s.aj,us,s.marks⟩ gh gu gm:=
 ⟨by simpa [hl]using hu.keep h.head h.Tw,h.con,h.below.trans (hu.below h.below.size (λk hk=>by rw[hk];exact h.Aw)),
  h.aj.keep hu (λk hk e=>by injection hk with hk;subst hk;exact h.aj.kC h.used (by decide) e),by simpa [hl]using hrow,
  h.marks.keep hu (λk hk e=>by injection hk with hk;subst hk;exact h.marks.kC h.used (by decide) e),h.newG,h.newH,h.Aw,h.uL⟩
theorem aH.L9{S:Nat->Prop}(h:aH w0 w g v C t s gh gu gm)(hu:aG S w w')(hS:∀k,S k->k<w0.heap.size):aQ w' t s:=by
 refine⟨(h.aj.keep hu ?_).C8 ?_,(h.used.keep hu ?_).C8 ?_,(h.marks.keep hu ?_).C8 ?_⟩
 .intro k hk e;injection hk with hk;subst hk;have:=hS _ e;have:=h.newH;omega
 .intro u hu;simp only[aZ,cZ]at hu;obtain⟨_,_,rfl⟩:=hu;rfl
 .intro k hk e;injection hk with hk;subst hk;have:=hS _ e;have:=h.Aw;omega
 .intro u hu;simp only[fM,cZ]at hu;obtain⟨_,_,rfl⟩:=hu;rfl
 .intro k hk e;injection hk with hk;subst hk;have:=hS _ e;have:=h.uL;omega
 .intro u hu;simp only[Br,aD.cells]at hu;obtain⟨m,_,hm⟩:=hu;simp at hm;rcases hm with rfl|rfl|rfl|rfl|rfl<;>rfl
end
def Al(B:Nat)(v:SV):Prop:=∀b off,v.A=some ⟨b,off,none⟩->B<=b
def lN(B:Nat)(t:TV):Prop:=Al B t.h/\Al B t.u/\Al B t.m
theorem Al.mono{B B':Nat}{v:SV}(h:Al B v)(hB:B'<=B):Al B' v:=λb off e=>bI hB (h b off e)
theorem lN.mono{B B':Nat}{t:TV}(h:lN B t)(hB:B'<=B):lN B' t:=⟨h.1.mono hB,h.2.1.mono hB,h.2.2.mono hB⟩
theorem mD{B g o c:Nat}(h:B<=g):Al B ⟨some ⟨g,o,none⟩,c⟩:=λb off e=>by
 simp only[Option.some.injEq,Addr.mk.injEq]at e;omega
theorem Src.kX{S:Nat->Prop}{B:Nat}{w w':World}{size m c:Nat}{A:Option Addr}{news:List Value}(h:Src w size A m news)(hs:0<size)(hn:Al B ⟨A,c⟩)(hu:aG S w w')(hS:∀k,S k->k<B):Src w' size A m news:=by
 refine⟨h.1,h.2.1,λhm=>?_⟩;obtain⟨p,off,rfl,hlt,hc⟩:=h.form hm hs;refine⟨_,rfl,λj u hj=>?_⟩;have hjl:j<m*size:=by rw[<-h.1];exact(bB.1 hj).1
 have hp:=hn p off rfl;have hns:¬S p:=λhsp=>by have:=hS p hsp;omega
 rw[Addr.add_lit,show w'.cell? ⟨p,off+j,none⟩=w.cell? ⟨p,off+j,none⟩ by simp[World.cell?,hu.block p hlt hns],hc j hjl,hj]
theorem At.kX{S:Nat->Prop}{B:Nat}{w w':World}{size n c:Nat}{A:Option Addr}{xs:List Value}(h:At w size A n c xs)(hs:0<size)(hn:Al B ⟨A,c⟩)(hu:aG S w w')(hS:∀k,S k->k<B):At w' size A n c xs:=⟨h.1.kX hs hn hu hS,h.2⟩
theorem aQ.kX{S:Nat->Prop}{B:Nat}{w w':World}{t:TV}{s:ak}(h:aQ w t s)(hn:lN B t)(hu:aG S w w')(hS:∀k,S k->k<B):aQ w' t s:=
 ⟨h.aj.kX (by omega) hn.1 hu hS,h.used.kX (by omega) hn.2.1 hu hS,h.marks.kX (by omega) hn.2.2 hu hS⟩
def eX:aD:=⟨0,0,0,0,false⟩
theorem DC{α:Type}(f:α->List Value)(x:α)(z:Array Value)(hz:f x=z.toList)(hs:0<z.size)(n:Nat)(hf:∀a,(f a).length=z.size):(madeCells z (n*z.size)).toList=(List.replicate n x).flatMap f:=by
 apply lX;intro j;have hl:((List.replicate n x).flatMap f).length=n*z.size:=by rw[gW f z.size hf,mY]
 rcases iH j (n*z.size)with hj|hj
 .have hr:j % z.size<z.size:=Nat.mod_lt _ hs
  have hq:j/z.size<n:=by rw[Nat.div_lt_iff_lt_mul hs];exact hj
  have h1:=bG f z.size hf (List.replicate n x) (j/z.size) (j % z.size) x (by rw[Bv,if_pos hq]) hr;rw[Nat.mul_comm (j/z.size),Nat.div_add_mod]at h1;rw[h1,hz];simp[madeCells,hj,hr]
 .rw[mX (by rw[Array.length_toList,size_madeCells];exact hj),mX (by rw[hl];exact hj)]
theorem U6(n:Nat):(madeCells (Value.cells (.int .i64 0)) (n*1)).toList=aZ (List.replicate n 0):=by
 have h:=DC (λx:Int=>[Value.int .i64 x]) 0 (Value.cells (.int .i64 0)) rfl (by decide) n (λ_=>rfl);rw[show(Value.cells (.int .i64 0)).size=1 from rfl]at h;rw[h,aZ,List.map_eq_flatMap]
theorem vU(n:Nat):(madeCells (Value.cells (.bool false)) (n*1)).toList=fM (List.replicate n false):=by
 have h:=DC (λx:Bool=>[Value.bool x]) false (Value.cells (.bool false)) rfl (by decide) n (λ_=>rfl);rw[show(Value.cells (.bool false)).size=1 from rfl]at h;rw[h,fM,List.map_eq_flatMap]
theorem H8(n:Nat):(madeCells eX.cells.toArray (n*5)).toList=(List.replicate n eX).flatMap aD.cells:=
 DC aD.cells eX eX.cells.toArray rfl (by decide) n (λ_=>rfl)
theorem o9{z:World}{b:Nat}{x0 x1 x2 x3 y0 y1 y2 y3:Value}(h0:z.cell? ⟨b,0,none⟩=some y0)(h1:z.cell? ⟨b,1,none⟩=some y1)(h2:z.cell? ⟨b,2,none⟩=some y2)(h3:z.cell? ⟨b,3,none⟩=some y3){W:World}
 (hW:W=(((z.setCell ⟨b,0,none⟩ x0).setCell ⟨b,1,none⟩ x1).setCell ⟨b,2,none⟩ x2).setCell ⟨b,3,none⟩ x3):
 W.cell? ⟨b,0,none⟩=some x0/\W.cell? ⟨b,1,none⟩=some x1/\W.cell? ⟨b,2,none⟩=some x2/\W.cell? ⟨b,3,none⟩=some x3/\aG (λk=>k=b) z W:=by
 subst hW;have ne:∀i j:Nat,i≠j->(⟨b,i,none⟩:Addr)≠⟨b,j,none⟩:=λi j h e=>h (by injection e);have a1:(z.setCell ⟨b,0,none⟩ x0).cell? ⟨b,1,none⟩=some y1:=by rw[World.cell?_setCell_other _ _ _ _ (by first|exact ne 0 1 (by decide)|exact ne 1 0 (by decide))];exact h1
 have a2:((z.setCell ⟨b,0,none⟩ x0).setCell ⟨b,1,none⟩ x1).cell? ⟨b,2,none⟩=some y2:=by
  rw[World.cell?_setCell_other _ _ _ _ (by first|exact ne 1 2 (by decide)|exact ne 2 1 (by decide)),World.cell?_setCell_other _ _ _ _ (by first|exact ne 0 2 (by decide)|exact ne 2 0 (by decide))];exact h2
 have a3:(((z.setCell ⟨b,0,none⟩ x0).setCell ⟨b,1,none⟩ x1).setCell ⟨b,2,none⟩ x2).cell? ⟨b,3,none⟩=some y3:=by
  rw[World.cell?_setCell_other _ _ _ _ (by first|exact ne 2 3 (by decide)|exact ne 3 2 (by decide)),World.cell?_setCell_other _ _ _ _ (by first|exact ne 1 3 (by decide)|exact ne 3 1 (by decide)),World.cell?_setCell_other _ _ _ _ (by first|exact ne 0 3 (by decide)|exact ne 3 0 (by decide))];exact h3
 refine⟨?_,?_,?_,?_,(((((aG.refl (λk=>k=b) z).setCell (.inl rfl) _).setCell (.inl rfl) _).setCell (.inl rfl) _).setCell (.inl rfl) _)⟩
 .rw[World.cell?_setCell_other _ _ _ _ (by first|exact ne 0 3 (by decide)|exact ne 3 0 (by decide)),World.cell?_setCell_other _ _ _ _ (by first|exact ne 0 2 (by decide)|exact ne 2 0 (by decide)),World.cell?_setCell_other _ _ _ _ (by first|exact ne 0 1 (by decide)|exact ne 1 0 (by decide))]
  exact World.cell?_setCell_same' _ _ _ (by rw[h0];rfl)
 .rw[World.cell?_setCell_other _ _ _ _ (by first|exact ne 1 3 (by decide)|exact ne 3 1 (by decide)),World.cell?_setCell_other _ _ _ _ (by first|exact ne 1 2 (by decide)|exact ne 2 1 (by decide))]
  exact World.cell?_setCell_same' _ _ _ (by rw[a1];rfl)
 .rw[World.cell?_setCell_other _ _ _ _ (by first|exact ne 2 3 (by decide)|exact ne 3 2 (by decide))]
  exact World.cell?_setCell_same' _ _ _ (by rw[a2];rfl)
 .exact World.cell?_setCell_same' _ _ _ (by rw[a3];rfl)
end
open Go.RowKit Tryz
theorem nQ{P:Program}{W:World}{ops:Array Oper}{rest:List Oper}{o:Oper}{a:Act}{Q:Exit->Act->World->Prop}
 (hg:o.guard=none)(s x:Operand)(T:TypeId)(hop:o.op=Op.call {callee:=Callee.builtin Builtin.append,args:=#[s,x],argTypes:=#[T,T]})
 (e:TypeId)(i:TypeInfo)(z:Value)(size bytes:Nat)(ht:P.underlying T=some (.slice e))(hi:P.info? e=some i)(hz:i.zero=some z)(hsize:i.size=size)(hby:i.bytes=bytes)(hzs:z.cells.size=size)(h0:0<size)
 (B:Nat)(v:Value)(n:Nat)(xs:List Value)(hs:a.eval s=v)(hown:W.ownsRow B e size v n xs)(cs:List Value)(arr:Array Value)(harr:arr=cs.toArray)(hcs:cs.length=size)(h1:∀u∈cs,u.oneCell'=true)
 (hx:a.eval x= .slice (some ⟨W.heap.size,0,none⟩) 1 1)(hlen:n+1<=maxLen)(hb:(n+1)*bytes<=140737488355328)(hBW:B<=W.heap.size)
 (hK:∀v' w',w'.ownsRow B e size v' (n+1) (xs++cs)->Below B W w'->Lib.OthersKept e none W w'->wpList P ops Q rest (a.put o.dst v') w'):
 wpList P ops Q (o::rest) a (W.alloc (.cells arr e)):=by
 subst harr;refine wpList_append_own _ hg s x T hop B e i z size bytes ht hi hz hsize hby hzs h0 v n xs hs (World.ownsRow.alloc hown _) ⟨W.heap.size,0,none⟩ 1 1 cs hx (by omega)
  (λj u hj=>by
   rw[Addr.add_lit,aK _ _ (0+j) _ _ _ (bK W _)];simpa using hj) h1 hlen hb (by simp;omega) ?_
 intro v' w' hown' hgrow _;refine hK v' w' hown' ?_ ?_
 .exact((aC _ W).alloc hBW _).grown hgrow (by simp;omega) (λk hk=>(hown.lt k hk).1)
 .intro k o' ho hb' hne
  have hlt:=aB ho;have hrow:some k≠v.ownBlock:=by
   intro e';rcases hown.2 with⟨rfl,_⟩|⟨g,cap,cur,rfl,_,h3,_⟩
   .cases e'
   .simp only[Value.ownBlock,Option.some.injEq]at e'
    subst e';rw[ho]at h3;injection h3 with h3
    exact hne _ _ h3
  rw[hgrow.block k (by simp;omega) hrow];exact(Below.heap_alloc _ _ _ hlt).trans ho
theorem ownsRow_below{w w':World}{B:Nat}{e:TypeId}{size n:Nat}{v:Value}{xs:List Value}(h:w.ownsRow B e size v n xs)(hb:Below w.heap.size w w'):w'.ownsRow B e size v n xs:=by
 refine⟨h.1,?_⟩;rcases h.2 with h0|⟨g,cap,cur,hv,hB,hg,r⟩
 .exact .inl h0
 .exact .inr ⟨g,cap,cur,hv,hB,(hb.block g (aB hg)).trans hg,r⟩
end Go.Proofs.YtpmdedcnbockhaaGreatDoor

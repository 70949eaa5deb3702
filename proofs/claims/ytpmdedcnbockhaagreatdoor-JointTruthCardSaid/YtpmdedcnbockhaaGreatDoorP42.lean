/-
  IterP; Funcs
-/
import Derived.Test.YtpmdedcnbockhaaGreatDoorP41
import Derived.Test.YtpmdedcnbockhaaGreatDoorP21
set_option maxRecDepth 100000
set_option maxHeartbeats 8000000
namespace Go.Proofs.YtpmdedcnbockhaaGreatDoor
section
open Go.RowKit Go.Shelf
attribute [local go_sem] Oper.semAt_some
structure Mo where
 step:Int
 s:ak
 t:TV
 er:Int
def Mo.encs(x:Mo):Array Value:=#[.agg #[.int .i64 x.step,.int .i64 x.s.day,.slice x.t.h.A x.s.aj.length x.t.h.c,.slice x.t.u.A x.s.used.length x.t.u.c,.slice x.t.m.A x.s.marks.length x.t.m.c],.int .i64 x.er]
def rowOf(b8:Nat)(V:World):Option Nat:=(V.cell? ⟨b8,0,none⟩).bind Value.ownBlock
def sW(V:World)(k:Nat):Prop:=∃o:Obj,V.heap[k]?=some o/\o.isCells=false
structure Jw(fx:Nat->Prop)(b8:Nat)(V V':World):Prop where
 upd:aH (λk=>fx k\/rowOf b8 V=some k\/sW V k) V V'
 row:rowOf b8 V'=rowOf b8 V\/∀k,rowOf b8 V'=some k->V.heap.size<=k
theorem nH{b8:Nat}{V V':World}(h:V'.heap[b8]?=V.heap[b8]?):rowOf b8 V'=rowOf b8 V:=by unfold rowOf;simp[World.cell?,h]
structure RB(v:CV)(C:au)(lA:Option Addr)(lc:Nat)(l:List Int)(bc bl b8:Nat)(fx:Nat->Prop)(V:World):Prop where
 con:bU V v C
 n_:V.heap[bc]?=some (.cells (v.cells C).toArray 27 (0,0))
 ahe:V.heap[bl]?=some (.cells #[.slice lA l.length lc] 22 (0,0))
 lat:At V 1 lA l.length lc (aR l)
 row:∀k,rowOf b8 V=some k->k<V.heap.size
 fixed:∀k,fx k->k<V.heap.size
 akw:fx b8
def O5(fx:Nat->Prop)(b8 g:Nat)(V:World)(t:TV)(s:ak):Prop:=∀V',aH (λk=>fx k\/rowOf b8 V=some k\/sW V k\/k=g) V V'->aW V' t s
theorem O5.at{fx:Nat->Prop}{b8 g:Nat}{V:World}{t:TV}{s:ak}(h:O5 fx b8 g V t s):aW V t s:=h V (aH.refl _ _)
theorem Src.RJ{Z:Nat->Prop}{B:Nat}{z V V':World}{size m c:Nat}{A:Option Addr}{news:List Value}(h:Src z size A m news)(hs:0<size)(hn:vT B ⟨A,c⟩)(hb:Below z.heap.size z V)(hu:aH Z V V')(hZ:∀k,k<z.heap.size->Z k->k<B\/sW z k):Src V' size A m news:=by
 refine⟨h.1,h.2.1,λhm=>?_⟩;obtain⟨p,off,rfl,hlt,hc⟩:=h.form hm hs;refine⟨_,rfl,λj u hj=>?_⟩;have hjl:j<m*size:=by rw[<-h.1];exact(aZ.1 hj).1
 have hp:=hn p off rfl;have hcj:z.cell? ⟨p,off+j,none⟩=some u:=by rw[hc j hjl,hj]
 have hns:¬Z p:=λhz=>by
  rcases hZ p hlt hz with h1|⟨o,ho,hoc⟩
  .omega
  .obtain⟨o',ho',hc'⟩:=cells_of_cell hcj
   rw[ho]at ho';cases ho'
   rw[hoc]at hc';cases hc'
 rw[Addr.add_lit,show V'.cell? ⟨p,off+j,none⟩=z.cell? ⟨p,off+j,none⟩ by simp[World.cell?,hu.block p (jX hlt hb.size) hns,hb.block p hlt],hcj]
theorem aW.RJ{Z:Nat->Prop}{B:Nat}{z V V':World}{t:TV}{s:ak}(h:aW z t s)(hn:rC B t)(hb:Below z.heap.size z V)(hu:aH Z V V')(hZ:∀k,k<z.heap.size->Z k->k<B\/sW z k):aW V' t s:=
 ⟨⟨h.aj.1.RJ (by omega) hn.1 hb hu hZ,h.aj.2⟩,⟨h.used.1.RJ (by omega) hn.2.1 hb hu hZ,h.used.2⟩,⟨h.marks.1.RJ (by omega) hn.2.2 hb hu hZ,h.marks.2⟩⟩
theorem Vq{fx:Nat->Prop}{b8 g:Nat}{V V3 V4 V':World}(hk:Jw fx b8 V V3)(h4:aH (λk=>k=g) V3 V4)(hg:g≠b8)(hb8:b8<V.heap.size)(hu:aH (λk=>fx k\/rowOf b8 V4=some k\/sW V4 k\/k=g) V4 V'):aH (λk=>fx k\/rowOf b8 V=some k\/sW V k\/k=g) V V':=by
 refine⟨hu.os.trans (h4.os.trans hk.upd.os),hu.tape.trans (h4.tape.trans hk.upd.tape),hu.output.trans (h4.output.trans hk.upd.output),bF hk.upd.size (bF h4.size hu.size),λk hkl hn=>?_⟩;have n1:¬(fx k\/rowOf b8 V=some k\/sW V k):=λh=>hn (by rcases h with h|h|h;exact .inl h;exact .inr (.inl h);exact .inr (.inr (.inl h)));have n2:k≠g:=λh=>hn (.inr (.inr (.inr h)));have e3:=hk.upd.block k hkl n1;have e4:=h4.block k (jX hkl hk.upd.size) n2;have er:rowOf b8 V4=rowOf b8 V3:=nH (h4.block b8 (jX hb8 hk.upd.size) (λe=>hg e.symm));rw[hu.block k (jX hkl (bF hk.upd.size h4.size)) (λh=>?_),e4,e3];rcases h with h|h|⟨o,ho,hc⟩|h
 .exact n1 (.inl h)
 .rw[er]at h
  rcases hk.row with hr|hr
  .rw[hr]at h;exact n1 (.inr (.inl h))
  .have:=hr k h;omega
 .rw[e4,e3]at ho;exact n1 (.inr (.inr ⟨o,ho,hc⟩))
 .exact n2 h
def BU(C:au)(l:List Int)(pre:List Mo)(x:Mo)(V:World):Prop:=
 l[pre.length]?=some x.step/\x.s=C.sP (l.take pre.length)/\x.er=C.bT x.s x.step/\aW V x.t x.s/\∀(i:Nat)(y:Int),i<pre.length->l[i]?=some y->C.bT (C.sP (l.take i)) y=0
theorem BU.putObj{C:au}{l:List Int}{pre:List Mo}{x:Mo}{V:World}(h:BU C l pre x V){b:Nat}{o o':Obj}(hb:V.heap[b]?=some o)(hc:o.isCells=false):BU C l pre x (V.putObj b o'):=
 ⟨h.1,h.2.1,h.2.2.1,h.2.2.2.1.RJ (B:=0) ⟨λ_ _ _=>aV _,λ_ _ _=>aV _,λ_ _ _=>aV _⟩ (aD _ _) (Z:=λk=>k=b) ⟨rfl,rfl,rfl,by simp[World.putObj],λk _ hn=>World.putObj_heap_other hn⟩ (λk _ e=>.inr (by subst e;exact⟨o,hb,hc⟩)),h.2.2.2.2⟩
theorem Yq{v:CV}{C:au}{lA:Option Addr}{lc:Nat}{l:List Int}{bc bl b8:Nat}{fx:Nat->Prop}(hv:C.valid=true)(n:Nat)(hn:1<=n)(I:List Mo->World->Prop)(hI:∀pre V,I pre V->RB v C lA lc l bc bl b8 fx V):
 ahb Fence.wide n Tryz.prog 126 #[.pointer (some ⟨bc,0,none⟩),.pointer (some ⟨bl,0,none⟩)] Mo.encs 48 (Jw fx b8) I (λpre x V=>BU C l pre x V/\x.er=0) (λpre x V=>BU C l pre x V/\x.er≠0)
  (λxs=>xs.length=l.length/\∀(i:Nat)(y:Int),l[i]?=some y->C.bT (C.sP (l.take i)) y=0) (λ_=>∃(i:Nat)(y:Int),l[i]?=some y/\C.bT (C.sP (l.take i)) y≠0):=by
 intro ll J JL W Qg hJA hY hL h0;obtain⟨⟨dF,dG⟩,⟨dH,dK⟩,⟨dV,dn⟩,⟨dQ,dh⟩,⟨dz,dB⟩⟩:=v;have qB:Hid (∀pre V,J pre V->RB (⟨⟨dF,dG⟩,⟨dH,dK⟩,⟨dV,dn⟩,⟨dQ,dh⟩,⟨dz,dB⟩⟩:CV) C lA lc l bc bl b8 fx V):=λpre V h=>hI _ _ (Qg _ _ h);have YD:=ah hJA;have HY:=ah hY;have HL:=ah hL;have KV:=ah h0;clear hI Qg hJA hY hL h0;have hin:=qB.out _ _ KV.out;have hlx:l.length<=9223372036854775807:=by have h1:=hin.lat.2.2.1;have h2:=hin.lat.2.2.2;unfold maxLen at h2;omega
 have c0:W.cell? ⟨bc,0,none⟩=some (.int .i64 C.aF):=(aG _ _ 0 _ _ _ hin.n_).trans rfl;have c1:W.cell? ⟨bc,1,none⟩=some (.slice dF C.aj.length dG):=(aG _ _ 1 _ _ _ hin.n_).trans rfl;have c2:W.cell? ⟨bc,2,none⟩=some (.slice dH C.units.length dK):=(aG _ _ 2 _ _ _ hin.n_).trans rfl;have c3:W.cell? ⟨bc,3,none⟩=some (.slice dV C.acts.length dn):=(aG _ _ 3 _ _ _ hin.n_).trans rfl;have c4:W.cell? ⟨bc,4,none⟩=some (.slice dQ C.clauses.length dh):=(aG _ _ 4 _ _ _ hin.n_).trans rfl;have c5:W.cell? ⟨bc,5,none⟩=some (.int .i64 C.days):=(aG _ _ 5 _ _ _ hin.n_).trans rfl;have c6:W.cell? ⟨bc,6,none⟩=some (.slice dz C.off.length dB):=(aG _ _ 6 _ _ _ hin.n_).trans rfl;have Ph:=ah ((yJ (⟨⟨dF,dG⟩,⟨dH,dK⟩,⟨dV,dn⟩,⟨dQ,dh⟩,⟨dz,dB⟩⟩:CV) C W hin.con).mono (λ_ _ h=>by rw[hv]at h;exact h.ret));have hlb:W.cell? ⟨bl,0,none⟩=some (.slice lA l.length lc):=(aG _ _ 0 _ _ _ hin.ahe).trans rfl;have hbl:=av hin.ahe;have HF8:=ah hin.akw;have HFX:=ah hin.fixed;have HRW:=ah hin.row;clear hin;simp only[CV.val,CV.cells]at Ph;generalize hfs:C.first=s1 at Ph;have Vt:=ah hfs;clear hfs;refine callsIn_of_wp Tryz.func126 rfl trivial ?_ rfl;simp only[Tryz.ntmps126,qU,iy,jJ,Nat.reduceAdd,Nat.reduceSub,rX,rY,r_,rZ,mI,r9];gi_wp2_with (refine⟨trivial,?_⟩;gi_at_call 38;refine(bQ.2 Ph.out).mono ?_;rintro e z1 ⟨CQ,CS,CU,CW,CX,CY,rfl,hst,hnt,hz⟩;refine Hid.out ?_);refine ah ?_;have HZ:=ah hz;have akx:z1.cell? ⟨bl,0,none⟩=some (.slice lA l.length lc):=by rw[hz.cell (p:=⟨bl,0,none⟩) hbl];exact hlb
 have aky:bl<z1.heap.size:=jX hbl hz.size;have HST:=ah hst;have Lg:=ah hnt;clear hst hnt hz c0 c1 c2 c3 c4 c5 c6 hlb hbl;gi_wp2;have Lp:Hid (Below W.heap.size W (z1.alloc (.cells #[.int .i64 s1.day,.slice CQ s1.aj.length CS,.slice CU s1.used.length CW,.slice CX s1.marks.length CY] 48))):=aK HZ.out _;have Yw:Hid (O5 fx b8 z1.heap.size (z1.alloc (.cells #[.int .i64 s1.day,.slice CQ s1.aj.length CS,.slice CU s1.used.length CW,.slice CX s1.marks.length CY] 48)) (⟨⟨CQ,CS⟩,⟨CU,CW⟩,⟨CX,CY⟩⟩:TV) s1):=λV' hu=>by
  refine HST.out.RJ Lg.out (aK (aD _ z1) _) hu (λk hk hz=>?_);have hzs:=HZ.out.size;rcases hz with h|h|⟨o,ho,hc⟩|h
  .exact .inl (HFX.out k h)
  .rw[nH (Lp.out.block b8 (HFX.out b8 HF8.out))]at h
   exact .inl (HRW.out k h)
  .exact .inr ⟨o,by rw[<-Below.heap_alloc z1 _ k hk];exact ho,hc⟩
  .omega
 have ZP:Hid (rowOf b8 (z1.alloc (.cells #[.int .i64 s1.day,.slice CQ s1.aj.length CS,.slice CU s1.used.length CW,.slice CX s1.marks.length CY] 48))≠some z1.heap.size):=λe=>by
  rw[nH (Lp.out.block b8 (HFX.out b8 HF8.out))]at e;have:=HRW.out _ e;have:=HZ.out.size;omega
 have HG1:Hid (W.heap.size<=z1.heap.size):=HZ.out.size;have Yc:Hid (J [] (z1.alloc (.cells #[.int .i64 s1.day,.slice CQ s1.aj.length CS,.slice CU s1.used.length CW,.slice CX s1.marks.length CY] 48))):=YD.out _ _ _ KV.out ⟨Lp.out.os,Lp.out.tape,Lp.out.output,Lp.out.size,λk hk _=>Lp.out.block k hk⟩;have oU:Hid ((z1.alloc (.cells #[.int .i64 s1.day,.slice CQ s1.aj.length CS,.slice CU s1.used.length CW,.slice CX s1.marks.length CY] 48)).heap[z1.heap.size]?=some (.cells #[.int .i64 s1.day,.slice CQ s1.aj.length CS,.slice CU s1.used.length CW,.slice CX s1.marks.length CY] 48 (0,0))):=bC z1 _;have vH:Hid (s1=C.sP (l.take 0)):=Vt.out.symm;generalize z1.alloc (.cells #[.int .i64 s1.day,.slice CQ s1.aj.length CS,.slice CU s1.used.length CW,.slice CX s1.marks.length CY] 48)=Wg at Lp Yw ZP Yc oU⊢;generalize z1.heap.size=g1 at Yw ZP oU HG1⊢;clear akx aky HZ HST Lg Ph
 gi_loopw [23] (λi wr=>∃(k:Nat)(pre:List Mo)(s:ak)(fQ:Option Addr)(eZ:Nat)(gH:Option Addr)(eX:Nat)(h_:Option Addr)(dW:Nat),k<=l.length/\i= .int .i64 k/\Hid (pre.length=k)/\Hid (J pre wr)/\Hid (s=C.sP (l.take k))/\Hid (∀(i:Nat)(y:Int),i<k->l[i]?=some y->C.bT (C.sP (l.take i)) y=0)/\Hid (wr.heap[g1]?=some (.cells #[.int .i64 s.day,.slice fQ s.aj.length eZ,.slice gH s.used.length eX,.slice h_ s.marks.length dW] 48 (0,0)))/\Hid (O5 fx b8 g1 wr (⟨⟨fQ,eZ⟩,⟨gH,eX⟩,⟨h_,dW⟩⟩:TV) s)/\Hid (rowOf b8 wr≠some g1)/\Hid (W.heap.size<=wr.heap.size)) (λi _=>l.length - (intOf i).toNat)
 case atStart=>exact⟨0,[],s1,CQ,CS,CU,CW,CX,CY,aV _,rfl,rfl,Yc,vH,(λi y h=>by omega),oU,Yw,ZP,Lp.out.size⟩
 case round=>
  obtain⟨k,pre,s,fQ,eZ,gH,eX,h_,dW,hk,rfl,vY,HJ,HS,Nr,HX,Ve,SG,ZE⟩:=hrel;by_cases hlt:k<l.length
  .have hin:=qB.out _ _ HJ.out
   obtain⟨x,hx⟩:∃x,l[k]?=some x:=⟨_,aT hlt⟩;obtain⟨lb,lo,hA,hlb,hlc⟩:=hin.lat.1.form (by omega) (by omega);subst hA;have cl:wr.cell? ⟨lb,lo+k,none⟩=some (.int .i64 x):=by rw[hlc k (by omega)];simp only[aR,gG,hx,j3]
   have ZH:=ah hx;clear hx hlc hlb;have c0:wr.cell? ⟨bc,0,none⟩=some (.int .i64 C.aF):=(aG _ _ 0 _ _ _ hin.n_).trans rfl;have c1:wr.cell? ⟨bc,1,none⟩=some (.slice dF C.aj.length dG):=(aG _ _ 1 _ _ _ hin.n_).trans rfl;have c2:wr.cell? ⟨bc,2,none⟩=some (.slice dH C.units.length dK):=(aG _ _ 2 _ _ _ hin.n_).trans rfl;have c3:wr.cell? ⟨bc,3,none⟩=some (.slice dV C.acts.length dn):=(aG _ _ 3 _ _ _ hin.n_).trans rfl;have c4:wr.cell? ⟨bc,4,none⟩=some (.slice dQ C.clauses.length dh):=(aG _ _ 4 _ _ _ hin.n_).trans rfl;have c5:wr.cell? ⟨bc,5,none⟩=some (.int .i64 C.days):=(aG _ _ 5 _ _ _ hin.n_).trans rfl;have c6:wr.cell? ⟨bc,6,none⟩=some (.slice dz C.off.length dB):=(aG _ _ 6 _ _ _ hin.n_).trans rfl;have d0:wr.cell? ⟨g1,0,none⟩=some (.int .i64 s.day):=(aG _ _ 0 _ _ _ HX.out).trans rfl;have d1:wr.cell? ⟨g1,1,none⟩=some (.slice fQ s.aj.length eZ):=(aG _ _ 1 _ _ _ HX.out).trans rfl;have d2:wr.cell? ⟨g1,2,none⟩=some (.slice gH s.used.length eX):=(aG _ _ 2 _ _ _ HX.out).trans rfl;have d3:wr.cell? ⟨g1,3,none⟩=some (.slice h_ s.marks.length dW):=(aG _ _ 3 _ _ _ HX.out).trans rfl;have CZ:=ah (Bq (⟨⟨dF,dG⟩,⟨dH,dK⟩,⟨dV,dn⟩,⟨dQ,dh⟩,⟨dz,dB⟩⟩:CV) C (⟨⟨fQ,eZ⟩,⟨gH,eX⟩,⟨h_,dW⟩⟩:TV) s x wr hin.con Ve.out.at);have ahf:=ah hin.row;clear hin;simp only[CV.val,CV.cells,TV.val,TV.cells,ak.cells]at CZ;have k0:(0:Int)<=(k:Int):=by omega
   have k1:(k:Int)<(l.length:Int):=by omega
   have Jl:=ah (av HX.out);by_cases he:C.bT s x=0
   .have HE:=ah he;clear he
    have Lh:=ah (CZ.out.mono (λ_ _ h=>by rw[HE.out]at h;exact h.ret));clear CZ;generalize hs':C.next s x=s' at Lh;have tT:=ah hs';clear hs';gi_wp2_with (refine⟨trivial,?_⟩;gi_at_call 39;refine(bQ.2 Lh.out).mono ?_;rintro e z2 ⟨D_,Ea,Eb,Ec,Ed,Ee,rfl,GV,GX,hz2⟩;refine Hid.out ?_);refine ah ?_;have HZ2:=ah hz2;have Rv:=ah GV;have akz:=ah GX;have hg1:g1<z2.heap.size:=jX Jl.out hz2.size;have uM:Hid (z2.heap[g1]?=some (.cells #[.int .i64 s.day,.slice fQ s.aj.length eZ,.slice gH s.used.length eX,.slice h_ s.marks.length dW] 48 (0,0))):=by show _=_;rw[hz2.block g1 Jl.out];exact HX.out
    have e0:z2.cell? ⟨g1,0,none⟩=some (.int .i64 s.day):=(aG _ _ 0 _ _ _ uM.out).trans rfl;have e1:z2.cell? ⟨g1,1,none⟩=some (.slice fQ s.aj.length eZ):=(aG _ _ 1 _ _ _ uM.out).trans rfl;have e2:z2.cell? ⟨g1,2,none⟩=some (.slice gH s.used.length eX):=(aG _ _ 2 _ _ _ uM.out).trans rfl;have e3:z2.cell? ⟨g1,3,none⟩=some (.slice h_ s.marks.length dW):=(aG _ _ 3 _ _ _ uM.out).trans rfl;clear GV GX hz2 cl c0 c1 c2 c3 c4 c5 c6 d0 d1 d2 d3;have EW:Hid (Below wr.heap.size wr (z2.alloc (.cells #[.int .i64 s'.day,.slice D_ s'.aj.length Ea,.slice Eb s'.used.length Ec,.slice Ed s'.marks.length Ee] 48))):=aK HZ2.out _;obtain⟨fn,tmps,assign,body,hy,hR⟩:=HY.out pre ⟨x,s,(⟨⟨fQ,eZ⟩,⟨gH,eX⟩,⟨h_,dW⟩⟩:TV),0⟩ (z2.alloc (.cells #[.int .i64 s'.day,.slice D_ s'.aj.length Ea,.slice Eb s'.used.length Ec,.slice Ed s'.marks.length Ee] 48)) (YD.out _ _ _ HJ.out ⟨EW.out.os,EW.out.tape,EW.out.output,EW.out.size,λk hk _=>EW.out.block k hk⟩) ⟨⟨by rw[vY.out];exact ZH.out,by rw[vY.out];exact HS.out,HE.out.symm,Ve.out.at.below EW.out,λi y hi=>Nr.out i y (by have:=vY.out;omega)⟩,rfl⟩;simp only[Mo.encs]at hy;gi_wp2;refine hR.mono ?_;rintro e V3 ⟨rfl,hJ3,hk3⟩;have Vy:=ah hJ3;have HK3:=ah hk3;clear hJ3 hk3 hR hy e0 e1 e2 e3;have hkeep:∀(g:Nat)(cs:Array Value),W.heap.size<=g->rowOf b8 (z2.alloc (.cells #[.int .i64 s'.day,.slice D_ s'.aj.length Ea,.slice Eb s'.used.length Ec,.slice Ed s'.marks.length Ee] 48))≠some g->(z2.alloc (.cells #[.int .i64 s'.day,.slice D_ s'.aj.length Ea,.slice Eb s'.used.length Ec,.slice Ed s'.marks.length Ee] 48)).heap[g]?=some (.cells cs 48 (0,0))->V3.heap[g]?=some (.cells cs 48 (0,0)):=λg cs hg hr hh=>by
     rw[HK3.out.upd.block g (av hh) (λh=>?_)]
     .exact hh
     .rcases h with h|h|⟨o,ho,hc⟩
      .have:=HFX.out g h;omega
      .exact hr h
      .rw[hh]at ho;cases ho;cases hc
    have her:rowOf b8 (z2.alloc (.cells #[.int .i64 s'.day,.slice D_ s'.aj.length Ea,.slice Eb s'.used.length Ec,.slice Ed s'.marks.length Ee] 48))=rowOf b8 wr:=nH (EW.out.block b8 (jX (HFX.out b8 HF8.out) ZE.out));have rF:Hid (V3.heap[g1]?=some (.cells #[.int .i64 s.day,.slice fQ s.aj.length eZ,.slice gH s.used.length eX,.slice h_ s.marks.length dW] 48 (0,0))):=hkeep g1 _ HG1.out (by rw[her];exact SG.out) (by rw[EW.out.block g1 Jl.out];exact HX.out);have YT:Hid (V3.heap[z2.heap.size]?=some (.cells #[.int .i64 s'.day,.slice D_ s'.aj.length Ea,.slice Eb s'.used.length Ec,.slice Ed s'.marks.length Ee] 48 (0,0))):=hkeep z2.heap.size _ (by have:=HZ2.out.size;have:=ZE.out;omega) (by rw[her];intro e;have:=ahf.out _ e;have:=HZ2.out.size;omega) (bC z2 _);have HER:=ah her;clear hkeep her;have e0:V3.cell? ⟨g1,0,none⟩=some (.int .i64 s.day):=(aG _ _ 0 _ _ _ rF.out).trans rfl;have e1:V3.cell? ⟨g1,1,none⟩=some (.slice fQ s.aj.length eZ):=(aG _ _ 1 _ _ _ rF.out).trans rfl;have e2:V3.cell? ⟨g1,2,none⟩=some (.slice gH s.used.length eX):=(aG _ _ 2 _ _ _ rF.out).trans rfl;have e3:V3.cell? ⟨g1,3,none⟩=some (.slice h_ s.marks.length dW):=(aG _ _ 3 _ _ _ rF.out).trans rfl;have n0:V3.cell? ⟨z2.heap.size,0,none⟩=some (.int .i64 s'.day):=(aG _ _ 0 _ _ _ YT.out).trans rfl;have n1:V3.cell? ⟨z2.heap.size,1,none⟩=some (.slice D_ s'.aj.length Ea):=(aG _ _ 1 _ _ _ YT.out).trans rfl;have n2:V3.cell? ⟨z2.heap.size,2,none⟩=some (.slice Eb s'.used.length Ec):=(aG _ _ 2 _ _ _ YT.out).trans rfl;have n3:V3.cell? ⟨z2.heap.size,3,none⟩=some (.slice Ed s'.marks.length Ee):=(aG _ _ 3 _ _ _ YT.out).trans rfl;have f0:V3.frozen? ⟨g1,0,none⟩=false:=frozen_of_row rF.out 0;have f1:V3.frozen? ⟨g1,1,none⟩=false:=frozen_of_row rF.out 1;have f2:V3.frozen? ⟨g1,2,none⟩=false:=frozen_of_row rF.out 2;have f3:V3.frozen? ⟨g1,3,none⟩=false:=frozen_of_row rF.out 3;have hne:¬(g1=z2.heap.size):=by omega
    gi_wp2;obtain⟨V4,VB⟩:∃V4,Hid (V4=(((V3.setCell ⟨g1,0,none⟩ (.int .i64 s'.day)).setCell ⟨g1,1,none⟩ (.slice D_ s'.aj.length Ea)).setCell ⟨g1,2,none⟩ (.slice Eb s'.used.length Ec)).setCell ⟨g1,3,none⟩ (.slice Ed s'.marks.length Ee)):=⟨_,rfl⟩;rw[<-VB.out];obtain⟨_,_,_,_,hub⟩:=nk e0 e1 e2 e3 VB.out;have HUB:=ah hub;have Ox:Hid (V4.heap[g1]?=some (.cells #[.int .i64 s'.day,.slice D_ s'.aj.length Ea,.slice Eb s'.used.length Ec,.slice Ed s'.marks.length Ee] 48 (0,0))):=NJ rF.out VB.out;have hb8:b8<W.heap.size:=HFX.out b8 HF8.out;have hg8:g1≠b8:=λe=>by have:=HG1.out;omega
    have akA:Hid (O5 fx b8 g1 V4 (⟨⟨D_,Ea⟩,⟨Eb,Ec⟩,⟨Ed,Ee⟩⟩:TV) s'):=λV' hu=>by
     have hu2:=Vq HK3.out HUB.out hg8 (by have:=EW.out.size;have:=ZE.out;omega) hu;refine Rv.out.RJ akz.out (aK (aD _ z2) _) hu2 (λk hk hz=>?_);rcases hz with h|h|⟨o,ho,hc⟩|h
     .exact .inl (by have:=HFX.out k h;have:=ZE.out;omega)
     .rw[HER.out]at h;exact .inl (ahf.out k h)
     .exact .inr ⟨o,by rw[<-Below.heap_alloc z2 _ k hk];exact ho,hc⟩
     .exact .inl (by have:=Jl.out;omega)
    have HJ4:Hid (J (pre++[⟨x,s,(⟨⟨fQ,eZ⟩,⟨gH,eX⟩,⟨h_,dW⟩⟩:TV),0⟩]) V4):=YD.out _ _ _ Vy.out (aH.mono HUB.out (λk _ e=>by subst e;exact⟨HG1.out,_,_,rF.out⟩));have HR4:Hid (rowOf b8 V4≠some g1):=λe=>by
     rw[nH (HUB.out.block b8 (by have:=HK3.out.upd.size;have:=EW.out.size;have:=ZE.out;omega) (λe=>hg8 e.symm))]at e;rcases HK3.out.row with hr|hr
     .rw[hr,HER.out]at e;exact SG.out e
     .have:=hr _ e;have:=EW.out.size;have:=Jl.out;omega
    have XI:Hid (s'=C.sP (l.take (k+1))):=by show _=_;rw[xL ZH.out,<-HS.out];exact tT.out.symm
    have HL4:Hid (∀(i:Nat)(y:Int),i<k+1->l[i]?=some y->C.bT (C.sP (l.take i)) y=0):=λi y hi hy=>by
     by_cases e:i=k
     .subst e
      rw[ZH.out]at hy;cases hy
      rw[<-HS.out];exact HE.out
     .exact Nr.out i y (by omega) hy
    have K8:Hid (W.heap.size<=V4.heap.size):=by show _<=_;have:=HUB.out.size;have:=HK3.out.upd.size;have:=EW.out.size;have:=ZE.out;omega
    go_roundw
    case rel=>exact⟨k+1,pre++[⟨x,s,(⟨⟨fQ,eZ⟩,⟨gH,eX⟩,⟨h_,dW⟩⟩:TV),0⟩],s',D_,Ea,Eb,Ec,Ed,Ee,by omega,by go_num,by show _=_;rw[lS,vY.out];rfl,HJ4,XI,HL4,Ox,akA,HR4,K8⟩
    case measure=>simp[intOf];omega
   .have JZ:=ah he
    generalize hee:C.bT s x=er at CZ he;have HEE:=ah hee;have Lh:Hid (Calls Tryz.prog 39 #[.agg #[.int .i64 C.aF,.slice dF C.aj.length dG,.slice dH C.units.length dK,.slice dV C.acts.length dn,.slice dQ C.clauses.length dh,.int .i64 C.days,.slice dz C.off.length dB],.agg #[.int .i64 s.day,.slice fQ s.aj.length eZ,.slice gH s.used.length eX,.slice h_ s.marks.length dW],.int .i64 x] wr (λe w'=>e= .returned (.tuple #[.agg #[.int .i64 0,.slice none 0 0,.slice none 0 0,.slice none 0 0],.int .i64 er])/\Below wr.heap.size wr w')):=CZ.out.mono (by
     rintro e w' ⟨hb,⟨h0,_⟩|⟨_,he⟩⟩
     .exact absurd h0 he
     .exact⟨he,hb⟩)
    clear CZ hee;gi_wp2_with (refine⟨trivial,?_⟩;gi_at_call 39;refine(bQ.2 Lh.out).mono ?_;rintro e z2 ⟨rfl,hz2⟩;refine Hid.out ?_);refine ah ?_;have hg1:g1<z2.heap.size:=jX Jl.out hz2.size;have uM:Hid (z2.heap[g1]?=some (.cells #[.int .i64 s.day,.slice fQ s.aj.length eZ,.slice gH s.used.length eX,.slice h_ s.marks.length dW] 48 (0,0))):=by show _=_;rw[hz2.block g1 Jl.out];exact HX.out
    have e0:z2.cell? ⟨g1,0,none⟩=some (.int .i64 s.day):=(aG _ _ 0 _ _ _ uM.out).trans rfl;have e1:z2.cell? ⟨g1,1,none⟩=some (.slice fQ s.aj.length eZ):=(aG _ _ 1 _ _ _ uM.out).trans rfl;have e2:z2.cell? ⟨g1,2,none⟩=some (.slice gH s.used.length eX):=(aG _ _ 2 _ _ _ uM.out).trans rfl;have e3:z2.cell? ⟨g1,3,none⟩=some (.slice h_ s.marks.length dW):=(aG _ _ 3 _ _ _ uM.out).trans rfl;have EW:Hid (Below wr.heap.size wr (z2.alloc (.cells #[.int .i64 0,.slice none 0 0,.slice none 0 0,.slice none 0 0] 48))):=aK hz2 _;clear hz2 cl c0 c1 c2 c3 c4 c5 c6 d0 d1 d2 d3;obtain⟨fn,tmps,assign,body,hy,hR⟩:=HL.out pre ⟨x,s,(⟨⟨fQ,eZ⟩,⟨gH,eX⟩,⟨h_,dW⟩⟩:TV),er⟩ (z2.alloc (.cells #[.int .i64 0,.slice none 0 0,.slice none 0 0,.slice none 0 0] 48)) (YD.out _ _ _ HJ.out ⟨EW.out.os,EW.out.tape,EW.out.output,EW.out.size,λk hk _=>EW.out.block k hk⟩) ⟨⟨by rw[vY.out];exact ZH.out,by rw[vY.out];exact HS.out,HEE.out.symm,Ve.out.at.below EW.out,λi y hi=>Nr.out i y (by have:=vY.out;omega)⟩,he⟩;simp only[Mo.encs]at hy;gi_wp2;refine hR.mono ?_;rintro e V3 ⟨rfl,hJ3⟩;have Vy:=ah hJ3;clear hJ3 hR hy e0 e1 e2 e3;gi_wp2;try rw[Exit.noGoto_ret]
    refine bodyPost_ret (results_none rfl _ _ _) rfl ?_;exact⟨⟨_,rfl⟩,.inr ⟨_,⟨k,x,ZH.out,by rw[<-HS.out];exact JZ.out⟩,Vy.out⟩⟩
  .obtain rfl:k=l.length:=by omega
   gi_wp2
   go_end0
   exact⟨⟨_,rfl⟩,.inl ⟨_,⟨vY.out,λi y hy=>Nr.out i y (aZ.1 hy).1 hy⟩,HJ.out⟩⟩
end
open Go.RowKit Go.Shelf
def p8(q:Int->Bool)(ps:List Int):Int:=match ps.findIdx? q with|some i=>i|none=> -1
theorem IB{q:Int->Bool}{ps:List Int}(h:∀x∈ps,q x=false):p8 q ps= -1:=by
 unfold p8;rw[List.findIdx?_eq_none_iff.2 h]
theorem IC{q:Int->Bool}{ps:List Int}{j:Nat}{x:Int}(hx:ps[j]?=some x)(hq:q x=true)(h:∀(i:Nat)(y:Int),i<j->ps[i]?=some y->q y=false):p8 q ps=j:=by
 unfold p8;obtain⟨hj,e⟩:=aZ.1 hx;rw[List.findIdx?_eq_some_iff_getElem.2 ⟨hj,by rw[e];exact hq,λi hi=>by rw[h i _ hi (aT (by omega))];decide⟩]
theorem Ko(q:Int->Bool)(ps:List Int):decide (0<=p8 q ps)=ps.any q:=by
 unfold p8;cases h:ps.findIdx? q with
 |none=>
  have h1:=List.findIdx?_eq_none_iff.1 h;have:ps.any q=false:=by rw[List.any_eq_false];exactλx hx=>by rw[h1 x hx];decide
  rw[this];rfl
 |some i=>
  obtain⟨hi,h1,_⟩:=List.findIdx?_eq_some_iff_getElem.1 h;have:ps.any q=true:=List.any_eq_true.2 ⟨_,wG hi,h1⟩;rw[this];simp
theorem Yx(d0:Nat)(q:Int->Bool)(pv:SV)(ps:List Int)(w:World)(hP:At w 1 pv.A ps.length pv.c (aR ps))(hq:∀(z:Bl w)(x:Int),x∈ps->Calls Tryz.prog 41 #[.int .i64 x,.pointer (some ⟨d0,0,none⟩)] z.val (dx (.bool (q x)) z.val)):Calls Tryz.prog 73 #[.slice pv.A ps.length pv.c,.func (.func 41) #[] #[.pointer (some ⟨d0,0,none⟩)]] w (dx (.int .i64 (p8 q ps)) w):=by
 obtain⟨pA,pc⟩:=pv;have hpx:ps.length<=9223372036854775807:=by have h1:=hP.2.2.1;have h2:=hP.2.2.2;unfold maxLen at h2;omega
 have HP:=ah hP;clear hP;have HQ:=ah hq;clear hq;generalize hE:p8 q ps=E;have HE:=ah hE;clear hE;go_enter Tryz.func73,Tryz.ntmps73;change Code.wp _ _ _ _ (Bl.val (⟨w,aD _ _⟩:Bl w));generalize(⟨w,aD _ _⟩:Bl w)=s0;go_wp2
 go_loopg [8] ps.length (λgk v8 wr=>∃(j:Nat)(z:Bl w),gk=ps.length - j/\j<=ps.length/\v8= .int .i64 j/\wr=z.val/\Hid (∀(i:Nat)(y:Int),i<j->ps[i]?=some y->q y=false))
 case atStart=>exact⟨0,_,rfl,aV _,rfl,rfl,λi y h=>by omega⟩
 case round=>
  obtain⟨j,z,eH,hj,rfl,rfl,hpre⟩:=hrel;have iB:=ah eH;clear eH;by_cases hlt:j<ps.length
  .obtain⟨x,hx⟩:∃x,ps[j]?=some x:=⟨ps[j],aT hlt⟩
   obtain⟨b1,o1,hA1,_,hc1⟩:=(HP.out.below (by omega) z.prop).1.form (by omega) (by omega);try simp only at hA1
   subst hA1;have e1:z.val.cell? ⟨b1,o1+j,none⟩=some (.int .i64 x):=by rw[hc1 _ (by omega)];simp only[aR,gG,hx,j3]
   have HC:=ah (HQ.out z x (cK hx));have HX:=ah hx;clear hc1 hx;have j1:(j:Int)<(ps.length:Int):=by omega
   cases hqx:q x with
   |false=>
    rw[hqx]at HC;go_wp2_with (go_at_call 41;refine HC.out.mono ?_;rintro e z ⟨rfl,hz⟩;obtain⟨z,rfl⟩:=Bl.on hz;clear hz)
    go_roundg (ps.length - (j+1))
    case measure=>have:=iB.out;omega
    case rel=>
     refine⟨j+1,_,rfl,by omega,by go_num,rfl,λi y hi h1=>?_⟩;by_cases e:i=j
     .subst e
      rw[HX.out]at h1;cases h1
      exact hqx
     .exact hpre.out i y (by omega) h1
   |true=>
    rw[hqx]at HC;obtain rfl:E=j:=by rw[<-HE.out];exact IC HX.out hqx hpre.out
    go_wp2_with (go_at_call 41;refine HC.out.mono ?_;rintro e z ⟨rfl,hz⟩;obtain⟨z,rfl⟩:=Bl.on hz;clear hz);go_ret;exact⟨rfl,Bl.prop _⟩
  .have hjn:j=ps.length:=by omega
   subst hjn;obtain rfl:E= -1:=by
    rw[<-HE.out];refine IB (λx hx=>?_);obtain⟨i,hi,rfl⟩:=List.mem_iff_getElem.1 hx;exact hpre.out i _ hi (aT hi)
   go_wp2;go_ret;exact⟨rfl,Bl.prop _⟩
theorem OX(d0:Nat)(q:Int->Bool)(pv:SV)(ps:List Int)(w:World)(hP:At w 1 pv.A ps.length pv.c (aR ps))(hq:∀(z:Bl w)(x:Int),x∈ps->Calls Tryz.prog 41 #[.int .i64 x,.pointer (some ⟨d0,0,none⟩)] z.val (dx (.bool (q x)) z.val)):Calls Tryz.prog 42 #[.slice pv.A ps.length pv.c,.func (.func 41) #[] #[.pointer (some ⟨d0,0,none⟩)]] w (dx (.bool (ps.any q)) w):=by
 obtain⟨pA,pc⟩:=pv;have HI:=ah (Yx d0 q ⟨pA,pc⟩ ps w hP hq);clear hP hq;rw[<-Ko];generalize p8 q ps=r at HI⊢;go_enter Tryz.func42,Tryz.ntmps42;go_wp2_with (go_at_call 73;refine HI.out.mono ?_;rintro e z ⟨rfl,hz⟩;refine Hid.out ?_);refine ah ?_;go_wp2;go_ret;exact⟨rfl,hz⟩
theorem Yy(d0 d1 d2:Nat)(q:Int->Bool)(pv:SV)(ps:List Int)(w:World)(hP:At w 1 pv.A ps.length pv.c (aR ps))(hq:∀(z:Bl w)(x:Int),x∈ps->Calls Tryz.prog 45 #[.int .i64 x,.pointer (some ⟨d0,0,none⟩),.pointer (some ⟨d1,0,none⟩),.pointer (some ⟨d2,0,none⟩)] z.val (dx (.bool (q x)) z.val)):Calls Tryz.prog 73 #[.slice pv.A ps.length pv.c,.func (.func 45) #[] #[.pointer (some ⟨d0,0,none⟩),.pointer (some ⟨d1,0,none⟩),.pointer (some ⟨d2,0,none⟩)]] w (dx (.int .i64 (p8 q ps)) w):=by
 obtain⟨pA,pc⟩:=pv;have hpx:ps.length<=9223372036854775807:=by have h1:=hP.2.2.1;have h2:=hP.2.2.2;unfold maxLen at h2;omega
 have HP:=ah hP;clear hP;have HQ:=ah hq;clear hq;generalize hE:p8 q ps=E;have HE:=ah hE;clear hE;go_enter Tryz.func73,Tryz.ntmps73;change Code.wp _ _ _ _ (Bl.val (⟨w,aD _ _⟩:Bl w));generalize(⟨w,aD _ _⟩:Bl w)=s0;go_wp2
 go_loopg [8] ps.length (λgk v8 wr=>∃(j:Nat)(z:Bl w),gk=ps.length - j/\j<=ps.length/\v8= .int .i64 j/\wr=z.val/\Hid (∀(i:Nat)(y:Int),i<j->ps[i]?=some y->q y=false))
 case atStart=>exact⟨0,_,rfl,aV _,rfl,rfl,λi y h=>by omega⟩
 case round=>
  obtain⟨j,z,eH,hj,rfl,rfl,hpre⟩:=hrel;have iB:=ah eH;clear eH;by_cases hlt:j<ps.length
  .obtain⟨x,hx⟩:∃x,ps[j]?=some x:=⟨ps[j],aT hlt⟩
   obtain⟨b1,o1,hA1,_,hc1⟩:=(HP.out.below (by omega) z.prop).1.form (by omega) (by omega);try simp only at hA1
   subst hA1;have e1:z.val.cell? ⟨b1,o1+j,none⟩=some (.int .i64 x):=by rw[hc1 _ (by omega)];simp only[aR,gG,hx,j3]
   have HC:=ah (HQ.out z x (cK hx));have HX:=ah hx;clear hc1 hx;have j1:(j:Int)<(ps.length:Int):=by omega
   cases hqx:q x with
   |false=>
    rw[hqx]at HC;go_wp2_with (go_at_call 45;refine HC.out.mono ?_;rintro e z ⟨rfl,hz⟩;obtain⟨z,rfl⟩:=Bl.on hz;clear hz)
    go_roundg (ps.length - (j+1))
    case measure=>have:=iB.out;omega
    case rel=>
     refine⟨j+1,_,rfl,by omega,by go_num,rfl,λi y hi h1=>?_⟩;by_cases e:i=j
     .subst e
      rw[HX.out]at h1;cases h1
      exact hqx
     .exact hpre.out i y (by omega) h1
   |true=>
    rw[hqx]at HC;obtain rfl:E=j:=by rw[<-HE.out];exact IC HX.out hqx hpre.out
    go_wp2_with (go_at_call 45;refine HC.out.mono ?_;rintro e z ⟨rfl,hz⟩;obtain⟨z,rfl⟩:=Bl.on hz;clear hz);go_ret;exact⟨rfl,Bl.prop _⟩
  .have hjn:j=ps.length:=by omega
   subst hjn;obtain rfl:E= -1:=by
    rw[<-HE.out];refine IB (λx hx=>?_);obtain⟨i,hi,rfl⟩:=List.mem_iff_getElem.1 hx;exact hpre.out i _ hi (aT hi)
   go_wp2;go_ret;exact⟨rfl,Bl.prop _⟩
theorem O6(d0 d1 d2:Nat)(q:Int->Bool)(pv:SV)(ps:List Int)(w:World)(hP:At w 1 pv.A ps.length pv.c (aR ps))(hq:∀(z:Bl w)(x:Int),x∈ps->Calls Tryz.prog 45 #[.int .i64 x,.pointer (some ⟨d0,0,none⟩),.pointer (some ⟨d1,0,none⟩),.pointer (some ⟨d2,0,none⟩)] z.val (dx (.bool (q x)) z.val)):Calls Tryz.prog 42 #[.slice pv.A ps.length pv.c,.func (.func 45) #[] #[.pointer (some ⟨d0,0,none⟩),.pointer (some ⟨d1,0,none⟩),.pointer (some ⟨d2,0,none⟩)]] w (dx (.bool (ps.any q)) w):=by
 obtain⟨pA,pc⟩:=pv;have HI:=ah (Yy d0 d1 d2 q ⟨pA,pc⟩ ps w hP hq);clear hP hq;rw[<-Ko];generalize p8 q ps=r at HI⊢;go_enter Tryz.func42,Tryz.ntmps42;go_wp2_with (go_at_call 73;refine HI.out.mono ?_;rintro e z ⟨rfl,hz⟩;refine Hid.out ?_);refine ah ?_;go_wp2;go_ret;exact⟨rfl,hz⟩
theorem OY(bc:Nat)(v:CV)(C:au)(x:Int)(w:World)(hc:w.heap[bc]?=some (.cells (v.cells C).toArray 27 (0,0))):Calls Tryz.prog 41 #[.int .i64 x,.pointer (some ⟨bc,0,none⟩)] w (dx (.bool (decide (x<0)||decide (C.aF<=x))) w):=by
 have c0:w.cell? ⟨bc,0,none⟩=some (.int .i64 C.aF):=(aG _ _ 0 _ _ _ hc).trans rfl;clear hc;cases h1:decide (x<0)<;>cases h2:decide (C.aF<=x)
 all_goals
  go_enter Tryz.func41,Tryz.ntmps41;go_wp2;go_ret;exact⟨rfl,aD _ _⟩
theorem O7(bc bs ba:Nat)(v:CV)(C:au)(tv:TV)(s:ak)(i:Nat)(a:iO)(x:Int)(w:World)(hC:bU w v C)(hS:aW w tv s)(ha:C.acts[i]?=some a)(hpos:0<s.aj.length)
 (hto:(a.kind==1)=true->(a.tgt== -1)=false->0<=a.tgt/\a.tgt<s.aj.length)(hro:(a.role== -1)=false->0<=a.role/\a.role<s.aj.length)
 (hc:w.heap[bc]?=some (.cells (v.cells C).toArray 27 (0,0)))(hs:w.heap[bs]?=some (.cells (tv.cells s).toArray 48 (0,0)))(hi:w.heap[ba]?=some (.cells #[.int .i64 i] 3 (0,0))):
 Calls Tryz.prog 45 #[.int .i64 x,.pointer (some ⟨bc,0,none⟩),.pointer (some ⟨bs,0,none⟩),.pointer (some ⟨ba,0,none⟩)] w (dx (.bool (zi s a x)) w):=by
 obtain⟨⟨dF,dG⟩,⟨dH,dK⟩,⟨dV,dn⟩,⟨dQ,dh⟩,⟨dz,dB⟩⟩:=v;obtain⟨⟨fQ,eZ⟩,⟨gH,eX⟩,⟨h_,dW⟩⟩:=tv;have c0:w.cell? ⟨bc,0,none⟩=some (.int .i64 C.aF):=(aG _ _ 0 _ _ _ hc).trans rfl;have c1:w.cell? ⟨bc,1,none⟩=some (.slice dF C.aj.length dG):=(aG _ _ 1 _ _ _ hc).trans rfl;have c2:w.cell? ⟨bc,2,none⟩=some (.slice dH C.units.length dK):=(aG _ _ 2 _ _ _ hc).trans rfl;have c3:w.cell? ⟨bc,3,none⟩=some (.slice dV C.acts.length dn):=(aG _ _ 3 _ _ _ hc).trans rfl;have c4:w.cell? ⟨bc,4,none⟩=some (.slice dQ C.clauses.length dh):=(aG _ _ 4 _ _ _ hc).trans rfl;have c5:w.cell? ⟨bc,5,none⟩=some (.int .i64 C.days):=(aG _ _ 5 _ _ _ hc).trans rfl;have c6:w.cell? ⟨bc,6,none⟩=some (.slice dz C.off.length dB):=(aG _ _ 6 _ _ _ hc).trans rfl;have d0:w.cell? ⟨bs,0,none⟩=some (.int .i64 s.day):=(aG _ _ 0 _ _ _ hs).trans rfl;have d1:w.cell? ⟨bs,1,none⟩=some (.slice fQ s.aj.length eZ):=(aG _ _ 1 _ _ _ hs).trans rfl;have d2:w.cell? ⟨bs,2,none⟩=some (.slice gH s.used.length eX):=(aG _ _ 2 _ _ _ hs).trans rfl;have d3:w.cell? ⟨bs,3,none⟩=some (.slice h_ s.marks.length dW):=(aG _ _ 3 _ _ _ hs).trans rfl;have e0:w.cell? ⟨ba,0,none⟩=some (.int .i64 i):=(aG _ _ 0 _ _ _ hi).trans rfl;have HC:=ah (MK (⟨⟨dF,dG⟩,⟨dH,dK⟩,⟨dV,dn⟩,⟨dQ,dh⟩,⟨dz,dB⟩⟩:CV) C (⟨⟨fQ,eZ⟩,⟨gH,eX⟩,⟨h_,dW⟩⟩:TV) s x i a w hC hS ha hpos hto hro);simp only[CV.val,CV.cells,TV.val,TV.cells,ak.cells]at HC;clear hc hs hi hC hS ha hpos hto hro;go_enter Tryz.func45,Tryz.ntmps45;go_wp2_with (go_at_call 46;refine HC.out.mono ?_;rintro e z ⟨rfl,hz⟩;refine Hid.out ?_);refine ah ?_;go_wp2;go_ret;exact⟨rfl,hz⟩
theorem aas{C:au}{s:ak}{x:Int}(hO:bJ C s){i:Nat}{a:iO}(ha:C.acts[i]?=some a)(h0:0<=x)(h1:x<C.aF):C.sees s x i=zi s a x:=by
 unfold au.sees au.wN;have hi:i<C.acts.length:=(aZ.1 ha).1;have e1:C.fC s=true:=(iC C s).2 hO;have e2:decide (0<=x)=true:=by simpa using h0
 have e3:decide (x<C.aF)=true:=by simpa using h1
 have e4:decide ((0:Int)<=i)=true:=by simp
 have e5:decide ((i:Int)<C.acts.length)=true:=by simpa using hi
 simp only[e1,e2,e3,e4,e5,Bool.true_and,su,ha]
theorem L6(bp bc:Nat)(v:CV)(C:au)(pv:SV)(ps:List Int)(tv:TV)(s:ak)(i:Nat)(w:World)(hC:bU w v C)(hS:aW w tv s)(hO:bJ C s)(hil:i<C.acts.length)(hP:At w 1 pv.A ps.length pv.c (aR ps))(hps:∀x∈ps,0<=x/\x<C.aF)
 (hc:w.heap[bc]?=some (.cells (v.cells C).toArray 27 (0,0)))(hb:w.heap[bp]?=some (.cells #[.slice pv.A ps.length pv.c] 22 (0,0))):
 Calls Tryz.prog 44 #[tv.val s,.int .i64 i,.pointer (some ⟨bp,0,none⟩),.pointer (some ⟨bc,0,none⟩)] w (dx (.bool (ps.any (λx=>C.sees s x i))) w):=by
 obtain⟨a,ha⟩:∃a,C.acts[i]?=some a:=⟨C.acts[i],aT hil⟩;obtain⟨pA,pc⟩:=pv;have hb0:w.cell? ⟨bp,0,none⟩=some (.slice pA ps.length pc):=(aG _ _ 0 _ _ _ hb).trans rfl;have hbp:=av hb;obtain⟨W0,HW0⟩:∃W0,Hid (W0=(w.alloc (.cells (tv.cells s).toArray 48)).alloc (.cells #[.int .i64 i] 3)):=⟨_,rfl⟩;have HB:Hid (Below w.heap.size w W0):=by show Below _ _ _;rw[HW0.out];exact aK (aK (aD _ _) _) _
 have hx0:W0.heap[w.heap.size]?=some (.cells (tv.cells s).toArray 48 (0,0)):=by rw[HW0.out];exact(Below.heap_alloc (w.alloc (.cells (tv.cells s).toArray 48)) _ (w.heap.size) (by simp)).trans (bC w _)
 have hx1:W0.heap[w.heap.size+1]?=some (.cells #[.int .i64 i] 3 (0,0)):=by rw[HW0.out];exact(by have h:=bC (w.alloc (.cells (tv.cells s).toArray 48)) (.cells #[.int .i64 i] 3);simp only[aM]at h;exact h)
 have kOk:=(au.ok hO.con).acts a (cK ha);have hcon:∀(z:Bl W0)(x:Int),x∈ps->Calls Tryz.prog 45 #[.int .i64 x,.pointer (some ⟨bc,0,none⟩),.pointer (some ⟨w.heap.size,0,none⟩),.pointer (some ⟨w.heap.size+1,0,none⟩)] z.val (dx (.bool (C.sees s x i)) z.val):=λz x hx=>by
  rw[aas hO ha (hps x hx).1 (hps x hx).2];refine O7 bc w.heap.size (w.heap.size+1) v C tv s i a x z.val (hC.below (ay HB.out z.prop)) (hS.below (ay HB.out z.prop)) ha ?_ ?_ ?_ ?_ ?_ ?_
  .rw[hO.lh];have:=(au.ok hO.con).roles;omega
  .intro h1 h2
   have:=(wO kOk).1 h1 h2;unfold au.role at this;simp only[bM,decide_eq_true_eq]at this;rw[hO.lh];exact this
  .intro h1
   have:=(wO kOk).2 h1;unfold au.role at this;simp only[bM,decide_eq_true_eq]at this;rw[hO.lh];exact this
  .rw[(ay HB.out z.prop).block bc (av hc)];exact hc
  .rw[z.prop.block _ (av hx0)];exact hx0
  .rw[z.prop.block _ (av hx1)];exact hx1
 have Ii:=ah (O6 bc w.heap.size (w.heap.size+1) (λx=>C.sees s x i) ⟨pA,pc⟩ ps W0 (hP.below (by omega) HB.out) hcon);generalize ps.any (λx=>C.sees s x i)=r at Ii⊢;obtain⟨⟨fQ,eZ⟩,⟨gH,eX⟩,⟨h_,dW⟩⟩:=tv;simp only[TV.val,TV.cells,ak.cells]at HW0⊢;clear hC hS hO hP hps hc hb hx0 hx1 kOk hcon ha;go_enter Tryz.func44,Tryz.ntmps44;go_upto_region 1 with(fail)
 have c1:W0.cell? ⟨bp,0,none⟩=some (.slice pA ps.length pc):=by rw[HB.out.cell (p:=⟨bp,0,none⟩) hbp];exact hb0
 rw[<-HW0.out];go_wp2_with (go_at_call 42;refine Ii.out.mono ?_;rintro e z ⟨rfl,hz⟩;refine Hid.out ?_);refine ah ?_;go_wp2;go_ret;exact⟨rfl,ay HB.out hz⟩
end Go.Proofs.YtpmdedcnbockhaaGreatDoor

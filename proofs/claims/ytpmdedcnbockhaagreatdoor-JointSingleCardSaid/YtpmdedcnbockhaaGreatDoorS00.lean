/- part -/
import Derived.Test.YtpmdedcnbockhaaGreatDoorD
import Derived.WalkSpells
import Derived.WalkLawsBesides
import Derived.Lib.AppendZeros
import Derived.Lib.Overlaps
import Derived.BigQuiet
import Derived.Deep.RegionLaw
import Derived.Test.YtpmdedcnbockhaaGreatDoorProg
import Derived.Deep.RegionHeld3
import Derived.Deep.DeepCutAuto
namespace Go.Proofs.YtpmdedcnbockhaaGreatDoor
section
open Go.RowKit
structure aG(S:Nat->Prop)(w w':World):Prop where
 os:w'.os=w.os
 tape:w'.tape=w.tape
 output:w'.output=w.output
 size:w.heap.size<=w'.heap.size
 block:∀k,k<w.heap.size->¬S k->w'.heap[k]?=w.heap[k]?
theorem aG.refl(S:Nat->Prop)(w:World):aG S w w:=⟨rfl,rfl,rfl,bJ _,λ_ _ _=>rfl⟩
theorem aG.trans{S S':Nat->Prop}{a b c:World}(h:aG S a b)(k:aG S' b c)(hs:∀i,i<a.heap.size->S' i->S i):aG S a c:=
 ⟨k.os.trans h.os,k.tape.trans h.tape,k.output.trans h.output,bI h.size k.size,
  λi hi hn=>(k.block i (uH hi h.size) (λx=>hn (hs i hi x))).trans (h.block i hi hn)⟩
theorem aG.mono{S S':Nat->Prop}{w w':World}(h:aG S w w')(hs:∀i,i<w.heap.size->S i->S' i):aG S' w w':=
 ⟨h.os,h.tape,h.output,h.size,λi hi hn=>h.block i hi (λx=>hn (hs i hi x))⟩
theorem aG.drew{S:Nat->Prop}{a w:World}(h:aG S a w):aG S a w.drew:=⟨h.os,h.tape,h.output,h.size,h.block⟩
theorem aG.drewN{S:Nat->Prop}{a w:World}(h:aG S a w)(n:Nat):aG S a (w.drewN n):=⟨h.os,h.tape,h.output,h.size,h.block⟩
theorem aG.alloc{S:Nat->Prop}{a w:World}(h:aG S a w)(o:Obj):aG S a (w.alloc o):=
 ⟨h.os,h.tape,h.output,bI h.size (by simp),λi hi hn=>(Below.heap_alloc w o i (uH hi h.size)).trans (h.block i hi hn)⟩
theorem aG.setCell{S:Nat->Prop}{a w:World}(h:aG S a w){p:Addr}(hp:S p.block\/a.heap.size<=p.block)(u:Value):aG S a (w.setCell p u):=
 ⟨h.os,h.tape,h.output,by simpa [World.setCell]using h.size,λi hi hn=>(Below.heap_setCell w p u i (by
  rintro rfl;rcases hp with hp|hp
  .exact hn hp
  .omega)).trans (h.block i hi hn)⟩
theorem aG.jK{w w':World}{row:Option Nat}(h:w.grownBy w' row):aG (λk=>row=some k) w w':=
 ⟨h.os,h.tape,h.output,h.size,λi hi hn=>h.block i hi (λe=>hn e.symm)⟩
theorem aG.of_below{w w':World}{B:Nat}(h:Below B w w'):aG (λk=>B<=k) w w':=
 ⟨h.os,h.tape,h.output,h.size,λi _ hn=>h.block i (by omega)⟩
theorem aG.below{S:Nat->Prop}{w w':World}(h:aG S w w'){B:Nat}(hB:B<=w.heap.size)(hs:∀k,S k->B<=k):Below B w w':=
 ⟨h.os,h.tape,h.output,h.size,λi hi=>h.block i (by omega) (λx=>by have:=hs i x;omega)⟩
theorem aG.keep{S:Nat->Prop}{w w':World}(h:aG S w w'){g:Nat}{o:Obj}(hg:w.heap[g]?=some o)(hn:¬S g):w'.heap[g]?=some o:=
 (h.block g (lS.1 hg).1 hn).trans hg
theorem aB{w:World}{g:Nat}{o:Obj}(hg:w.heap[g]?=some o):g<w.heap.size:=(lS.1 hg).1
theorem aG.setRow{S:Nat->Prop}{a w:World}(h:aG S a w){g:Nat}(hp:S g\/a.heap.size<=g)(cs:Array Value):aG S a (w.setRow g cs):=
 ⟨h.os,h.tape,h.output,by simpa [World.setRow]using h.size,λi hi hn=>(setRow_other w g i cs (by
  rintro rfl;rcases hp with hp|hp
  .exact hn hp
  .omega)).trans (h.block i hi hn)⟩
def fu(w:World)(e:TypeId)(size:Nat)(v:Value)(n:Nat)(xs:List Value)(blk:Option Nat):Prop:=
 xs.length=n*size/\
 ((v= .slice none 0 0/\n=0/\blk=none)\/
  ∃g off cap cur,blk=some g/\v= .slice (some ⟨g,off,none⟩) n cap/\w.heap[g]?=some (.cells cur e (0,0))/\n<=cap/\cap<=maxLen/\off+cap*size<=cur.size/\(cur.toList.drop off).take (n*size)=xs)
def Src(w:World)(size:Nat)(A:Option Addr)(m:Nat)(news:List Value):Prop:=
 news.length=m*size/\(∀u∈news,u.oneCell'=true)/\(0<m->∃ad,A=some ad/\∀j u,news[j]?=some u->w.cell? (ad.add j)=some u)
section
variable {w:World} {e:TypeId} {size:Nat} {v:Value} {n:Nat} {xs:List Value} {blk:Option Nat}
theorem fu.lt(h:fu w e size v n xs blk){k:Nat}(hk:blk=some k):k<w.heap.size:=by
 rcases h.2 with⟨_,_,rfl⟩|⟨g,off,cap,cur,rfl,_,hg,_⟩
 .cases hk
 .injection hk with hk;subst hk;exact aB hg
theorem fu.keep{w':World}{S:Nat->Prop}(h:fu w e size v n xs blk)(hu:aG S w w')(hn:∀k,blk=some k->¬S k):fu w' e size v n xs blk:=by
 refine⟨h.1,?_⟩;rcases h.2 with h0|⟨g,off,cap,cur,hb,hv,hg,r⟩
 .exact .inl h0
 .exact .inr ⟨g,off,cap,cur,hb,hv,hu.keep hg (hn g hb),r⟩
theorem fu.form(h:fu w e size v n xs blk)(hn:0<n):
 ∃g off cap,blk=some g/\v= .slice (some ⟨g,off,none⟩) n cap/\n<=cap/\cap<=maxLen/\g<w.heap.size/\(∀j,j<n*size->w.cell? ⟨g,off+j,none⟩=xs[j]?)/\(∀j,w.frozen? ⟨g,j,none⟩=false):=by
 rcases h.2 with⟨_,h0,_⟩|⟨g,off,cap,cur,hb,hv,hg,h1,h2,h3,h4⟩
 .omega
 .refine⟨g,off,cap,hb,hv,h1,h2,aB hg,λj hj=>?_,λj=>by simp[World.frozen?,hg]⟩
  rw[aK w g (off+j) cur e (0,0) hg,<-h4,lT,if_pos hj,List.getElem?_drop];simp
theorem fu.val(h:fu w e size v n xs blk):∃A cap,v= .slice A n cap/\n<=cap/\cap<=maxLen:=by
 rcases h.2 with⟨hv,h0,_⟩|⟨g,off,cap,cur,hb,hv,hg,h1,h2,h3,h4⟩
 .subst h0;exact⟨none,0,hv,bJ _,aU _⟩
 .exact⟨_,cap,hv,h1,h2⟩
theorem fu.src(h:fu w e size v n xs blk)(h1:∀u∈xs,u.oneCell'=true):∃A cap,v= .slice A n cap/\Src w size A n xs:=by
 rcases Nat.eq_zero_or_pos n with h0|h0
 .obtain⟨A,cap,hv,_⟩:=h.val
  exact⟨A,cap,hv,h.1,h1,λhp=>by omega⟩
 .obtain⟨g,off,cap,hb,hv,_,_,_,hc,_⟩:=h.form h0
  refine⟨_,cap,hv,h.1,h1,λ_=>⟨_,rfl,λj u hu=>?_⟩⟩;have hj:j<xs.length:=(bB.1 hu).1;rw[Addr.add_lit,hc j (by rw[<-h.1];exact hj),hu]
end
section
variable {P:Program} (w:World)
theorem Jv(dT sT ty elem:TypeId)(i:TypeInfo)(hu:P.underlying dT=some (.slice elem))(hi:P.info? elem=some i)
 (g o dLen dCap:Nat)(a:Addr)(sLen sCap:Nat)(cur:Array Value)(t:TypeId)(cs:List Value)(k:Nat)(hk:min sLen dLen=k)
 (hg:w.heap[g]?=some (.cells cur t (0,0)))(hn:cs.length=k*i.size)
 (hsrc:∀j v,cs[j]?=some v->w.cell? (a.add j)=some v)(hfit:o+cs.length<=cur.size)(h1:∀v∈cs,v.oneCell'=true):
 (Builtin.copy_ #[dT,sT] ty #[.slice (some ⟨g,o,none⟩) dLen dCap,.slice (some a) sLen sCap]).run P w=
  .ok (goInt k) (w.setRow g (cur.toList.take o++cs++cur.toList.drop (o+cs.length)).toArray):=by
 have hl:=run_loadCells_list (P:=P) w a cs hsrc;have hst:=run_storeCells_at P g o t cs 0 cur w hg (by simpa using hfit) h1;have hk':Nat.min sLen dLen=k:=hk;simp[Builtin.copy_,run_underlying hu,Builtin.lenOf,Builtin.firstCells,sizeOf,typeInfo,hi,hk',<-hn,hl,hst]
end
section
variable {P:Program} {w:World} {ops:Array Oper} {rest:List Oper} {o:Oper} {a:Act} {K:Act->World->Prop} {Q:Exit->Act->World->Prop}
end
theorem gW{α:Type}(f:α->List Value)(s:Nat)(h:∀a,(f a).length=s)(l:List α):(l.flatMap f).length=l.length*s:=by
 induction l with
 |nil=>simp
 |cons a l ih=>rw[rQ,mU,ih,h,gV,Nat.succ_mul];omega
theorem bG{α:Type}(f:α->List Value)(s:Nat)(h:∀a,(f a).length=s):∀(l:List α)(k j:Nat)(a:α),l[k]?=some a->j<s->(l.flatMap f)[k*s+j]?=(f a)[j]?
 |[],_,_,_,hk,_=>by simp at hk
 |b::l,0,j,a,hk,hj=>by
  simp at hk;subst hk;rw[rQ,Nat.zero_mul,pF,kH (by rw[h];exact hj)]
 |b::l,k+1,j,a,hk,hj=>by
  rw[rQ,lW (by rw[h,Nat.succ_mul];omega),h,show(k+1)*s+j - s=k*s+j by rw[Nat.succ_mul];omega];exact bG f s h l k j a (by simpa using hk) hj
theorem Src.form{w:World}{size m:Nat}{A:Option Addr}{news:List Value}(h:Src w size A m news)(hm:0<m)(hs:0<size):
 ∃b off,A=some ⟨b,off,none⟩/\b<w.heap.size/\∀j,j<m*size->w.cell? ⟨b,off+j,none⟩=news[j]?:=by
 obtain⟨ad,rfl,hc⟩:=h.2.2 hm;have hl:0<news.length:=by rw[h.1];exact Nat.mul_pos hm hs
 have h0:=hc 0 _ (aS hl);rw[Addr.add_zero']at h0;have hlt:=World.block_lt_of_cell? w ad h0;obtain⟨b,off,spot⟩:=ad;cases spot with
 |some s=>
  unfold World.cell? at h0;split at h0<;>simp at h0
 |none=>
  refine⟨b,off,rfl,hlt,λj hj=>?_⟩;rw[<-Addr.add_lit,hc j _ (aS (by rw[h.1];exact hj)),aS (by rw[h.1];exact hj)]
theorem Src.below{w w':World}{size m:Nat}{A:Option Addr}{news:List Value}(h:Src w size A m news)(hs:0<size)(hb:Below w.heap.size w w'):Src w' size A m news:=by
 refine⟨h.1,h.2.1,λhm=>?_⟩;obtain⟨b,off,rfl,hlt,hc⟩:=h.form hm hs;refine⟨_,rfl,λj u hu=>?_⟩;have hj:j<m*size:=by rw[<-h.1];exact(bB.1 hu).1
 rw[Addr.add_lit,hb.cell (p:=⟨b,off+j,none⟩) hlt,hc j hj,hu]
theorem heap_setCell_same{w:World}{g i:Nat}{cs:Array Value}{t:TypeId}(h:w.heap[g]?=some (.cells cs t (0,0)))(u:Value):
 (w.setCell ⟨g,i,none⟩ u).heap[g]?=some (.cells (cs.setIfInBounds i u) t (0,0)):=by
 simp[World.setCell,Array.getElem?_modify,h]
def Ret(v:Value)(w:World)(e:Ending)(w':World):Prop:=e= .returned v/\w=w'
def dZ(v:Value)(w:World)(e:Ending)(w':World):Prop:=e= .returned v/\Below w.heap.size w w'
theorem below_drewN(w:World)(n:Nat):Below w.heap.size w (w.drewN n):=⟨rfl,rfl,rfl,bJ _,λ_ _=>rfl⟩
theorem info_parts'{P:Program}{t:TypeId}{z:Option Value}{s b:Nat}(h:(P.info? t).map (λi=>(i.zero,i.size,i.bytes))=some (z,s,b)):∃i,P.info? t=some i/\i.zero=z/\i.size=s/\i.bytes=b:=by
 cases e:P.info? t with
 |none=>rw[e]at h;cases h
 |some i=>
  rw[e]at h;simp at h;exact⟨i,rfl,h.1,h.2.1,h.2.2⟩
def At(w:World)(size:Nat)(A:Option Addr)(n c:Nat)(xs:List Value):Prop:=Src w size A n xs/\(A=none->n=0/\c=0)/\n<=c/\c<=maxLen
theorem nZ{w:World}{size:Nat}{A:Option Addr}{n c:Nat}{xs:List Value}(h:At w size A n c xs):n<=9223372036854775807:=by
 have h1:=h.2.2.1;have h2:=h.2.2.2;unfold maxLen at h2;omega
theorem At.below{w w':World}{size n c:Nat}{A:Option Addr}{xs:List Value}(h:At w size A n c xs)(hs:0<size)(hb:Below w.heap.size w w'):At w' size A n c xs:=⟨h.1.below hs hb,h.2⟩
end
section
open Go.RowKit
structure dz where
 num:Int
 den:Int
structure jy where
 kind:Int
 role:Int
 give:Int
 tgt:Int
 unit:Int
 lot:dz
structure iZ where
 clause:Int
 is:Int
structure aP where
 kind:Int
 role:Int
 act:Int
 need:Int
 start:List iZ
 after:Int
 lY:Int
 rR:Bool
 final:Bool
 pause:Int
 resume:Int
 value:dz
 unit:Int
 tgt:Int
 vH:Bool
structure gH where
 name:ByteArray
 kind:Int
 base:Int
 factor:dz
structure au where
 aF:Int
 aj:List Int
 units:List gH
 acts:List jy
 clauses:List aP
 days:Int
 off:List Int
structure aD where
 status:Int
 left:Int
 got:Int
 dK:Int
 paused:Bool
structure ak where
 day:Int
 aj:List Int
 used:List Bool
 marks:List aD
def aZ(l:List Int):List Value:=l.map (Value.int .i64)
def fM(l:List Bool):List Value:=l.map Value.bool
def dz.cells(r:dz):List Value:=[.int .i64 r.num,.int .i64 r.den]
def jy.cells(a:jy):List Value:=[.int .i64 a.kind,.int .i64 a.role,.int .i64 a.give,.int .i64 a.tgt,.int .i64 a.unit,.int .i64 a.lot.num,.int .i64 a.lot.den]
def iZ.cells(k:iZ):List Value:=[.int .i64 k.clause,.int .i64 k.is]
def gH.cells(u:gH):List Value:=[.string u.name,.int .i64 u.kind,.int .i64 u.base,.int .i64 u.factor.num,.int .i64 u.factor.den]
def aD.cells(m:aD):List Value:=[.int .i64 m.status,.int .i64 m.left,.int .i64 m.got,.int .i64 m.dK,.bool m.paused]
structure SV where
 A:Option Addr
 c:Nat
def aP.cells(k:aP)(s:SV):List Value:=
 [.int .i64 k.kind,.int .i64 k.role,.int .i64 k.act,.int .i64 k.need,.slice s.A k.start.length s.c,.int .i64 k.after,.int .i64 k.lY,.bool k.rR,.bool k.final,.int .i64 k.pause,.int .i64 k.resume,.int .i64 k.value.num,.int .i64 k.value.den,.int .i64 k.unit,.int .i64 k.tgt,.bool k.vH]
def ak.cells(s:ak)(h u m:SV):List Value:=[.int .i64 s.day,.slice h.A s.aj.length h.c,.slice u.A s.used.length u.c,.slice m.A s.marks.length m.c]
structure CV where
 h:SV
 u:SV
 a:SV
 k:SV
 o:SV
def CV.cells(v:CV)(C:au):List Value:=[.int .i64 C.aF,.slice v.h.A C.aj.length v.h.c,.slice v.u.A C.units.length v.u.c,.slice v.a.A C.acts.length v.a.c,.slice v.k.A C.clauses.length v.k.c,.int .i64 C.days,.slice v.o.A C.off.length v.o.c]
def CV.val(v:CV)(C:au):Value:=.agg (v.cells C).toArray
def Kl(w:World)(s:SV)(l:List aP):Prop:=
 ∃ss:List SV,ss.length=l.length/\At w 16 s.A l.length s.c ((l.zip ss).flatMap (λp=>p.1.cells p.2))/\∀(i:Nat)(k:aP)(t:SV),l[i]?=some k->ss[i]?=some t->At w 2 t.A k.start.length t.c (k.start.flatMap iZ.cells)
structure bO(w:World)(v:CV)(C:au):Prop where
 aj:At w 1 v.h.A C.aj.length v.h.c (aZ C.aj)
 units:At w 5 v.u.A C.units.length v.u.c (C.units.flatMap gH.cells)
 acts:At w 7 v.a.A C.acts.length v.a.c (C.acts.flatMap jy.cells)
 clauses:Kl w v.k C.clauses
 off:At w 1 v.o.A C.off.length v.o.c (aZ C.off)
theorem bO.below{w w':World}{v:CV}{C:au}(h:bO w v C)(hb:Below w.heap.size w w'):bO w' v C:=by
 refine⟨h.aj.below (by omega) hb,h.units.below (by omega) hb,h.acts.below (by omega) hb,?_,h.off.below (by omega) hb⟩;obtain⟨ss,h1,h2,h3⟩:=h.clauses;exact⟨ss,h1,h2.below (by omega) hb,λi k t hk ht=>(h3 i k t hk ht).below (by omega) hb⟩
structure TV where
 h:SV
 u:SV
 m:SV
def TV.cells(v:TV)(s:ak):List Value:=s.cells v.h v.u v.m
def TV.val(v:TV)(s:ak):Value:=.agg (v.cells s).toArray
structure aQ(w:World)(v:TV)(s:ak):Prop where
 aj:At w 1 v.h.A s.aj.length v.h.c (aZ s.aj)
 used:At w 1 v.u.A s.used.length v.u.c (fM s.used)
 marks:At w 5 v.m.A s.marks.length v.m.c (s.marks.flatMap aD.cells)
theorem aQ.below{w w':World}{v:TV}{s:ak}(h:aQ w v s)(hb:Below w.heap.size w w'):aQ w' v s:=
 ⟨h.aj.below (by omega) hb,h.used.below (by omega) hb,h.marks.below (by omega) hb⟩
theorem Below.step{w X z:World}(h:Below w.heap.size w X)(hz:Below X.heap.size X z):Below w.heap.size w z:=h.trans (hz.mono h.size)
theorem av:type_of% @Below.step:=@Below.step
theorem Below.jX{w X:World}(h:Below w.heap.size w X)(o:Obj):Below w.heap.size w (X.alloc o):=h.alloc h.size o
theorem aJ:type_of% @Below.jX:=@Below.jX
theorem aL{W w1:World}(hb:Below W.heap.size W w1):(∀b o,b<W.heap.size->w1.cell? ⟨b,o,none⟩=W.cell? ⟨b,o,none⟩)/\(∀b o,b<W.heap.size->w1.frozen? ⟨b,o,none⟩=W.frozen? ⟨b,o,none⟩):=
 ⟨λb o h=>hb.cell (p:=⟨b,o,none⟩) h,λb o h=>hb.frozen (p:=⟨b,o,none⟩) h⟩
structure Bl(W0:World) where
 val:World
 prop:Below W0.heap.size W0 val
instance (W0:World):Inhabited (Bl W0):=⟨⟨W0,aC _ _⟩⟩
theorem Bl.on{W0:World}{s:Bl W0}{z:World}(hz:Below s.val.heap.size s.val z):∃z':Bl W0,z=z'.val:=⟨⟨z,av s.prop hz⟩,rfl⟩
theorem Bl.cell{W0:World}(s:Bl W0){b o:Nat}{u:Value}(h:W0.cell? ⟨b,o,none⟩=some u):s.val.cell? ⟨b,o,none⟩=some u:=by
 rw[s.prop.cell (p:=⟨b,o,none⟩) (World.block_lt_of_cell? W0 ⟨b,o,none⟩ h),h]
theorem Calls.dw{P:Program}{f:FuncId}{args:Array Value}{W0:World}{s:Bl W0}{v:Value}(h:Calls P f args s.val (dZ v s.val)):Calls P f args s.val (λe w''=>e= .returned v/\∃s':Bl W0,w''=s'.val):=
 h.mono λ_ w'' ⟨he,hb⟩=>⟨he,⟨⟨w'',av s.prop hb⟩,rfl⟩⟩
theorem aI{P:Program}{id:Nat}{Q:Exit->Act->World->Prop}{a:Act}{W0:World}{s:Bl W0}{l:List Oper}
 (h:wpQuiet P l.toArray (λw'=>∃s:Bl W0,w'=s.val) (λa'=>∀w',(∃s:Bl W0,w'=s.val)->Q .normal a' w') l a)(hm:P.follows .mixedOrders=true:=by kernel_rfl)(hB:Region.lexB .any l.toArray=true:=by kernel_rfl):(Code.region id l.toArray true).wp P Q a s.val:=
 wp_region_quiet (C:=λw'=>∃s:Bl W0,w'=s.val) hm hB ⟨⟨s.val.drew,s.prop.drew⟩,rfl⟩ (by simpa using h)
theorem bX{W:World}{g i:Nat}{cs:Array Value}{t:TypeId}{u:Value}(h:W.heap[g]?=some (.cells cs t (0,0)))(hu:cs[i]?=some u):∀z:Bl W,z.val.cell? ⟨g,i,none⟩=some u:=λz=>z.cell ((aK W _ i _ _ _ h).trans hu)
theorem wP{W W':World}{g i:Nat}{u:Value}(hp:Below W.heap.size W W')(k:∀z:Bl W,z.val.cell? ⟨g,i,none⟩=some u):∀z:Bl W',z.val.cell? ⟨g,i,none⟩=some u:=λz=>k ⟨z.val,av hp z.prop⟩
theorem zM{W W':World}{g i:Nat}{u:Value}(hp:∀z:Bl W',Below W.heap.size W z.val)(k:∀z:Bl W,z.val.cell? ⟨g,i,none⟩=some u):∀z:Bl W',z.val.cell? ⟨g,i,none⟩=some u:=λz=>k ⟨z.val,hp z⟩
theorem hbl{w:World}{o:Obj}{i:Nat}{x:Option Obj}(h:i<w.heap.size)(h2:w.heap[i]?=x):(w.alloc o).heap[i]?=x:=(Below.heap_alloc w o i h).trans h2
theorem hat{w:World}{cs:Array Value}{t:TypeId}{n:Nat}(h:w.heap.size=n):(w.alloc (.cells cs t)).heap[n]?=some (.cells cs t (0,0)):=by subst h;exact bK w _
theorem Ww{W:World}{g:Nat}{a0 a1:Value}{t:TypeId}(h:W.heap[g]?=some (.cells #[a0,a1] t (0,0))):(∀z:Bl W,z.val.cell? ⟨g,0,none⟩=some a0)/\(∀z:Bl W,z.val.cell? ⟨g,1,none⟩=some a1):=⟨bX h rfl,bX h rfl⟩
theorem kc3{W:World}{g:Nat}{a0 a1 a2:Value}{t:TypeId}(h:W.heap[g]?=some (.cells #[a0,a1,a2] t (0,0))):(∀z:Bl W,z.val.cell? ⟨g,0,none⟩=some a0)/\(∀z:Bl W,z.val.cell? ⟨g,1,none⟩=some a1)/\(∀z:Bl W,z.val.cell? ⟨g,2,none⟩=some a2):=⟨bX h rfl,bX h rfl,bX h rfl⟩
theorem Wx{W:World}{g:Nat}{a0 a1 a2 a3:Value}{t:TypeId}(h:W.heap[g]?=some (.cells #[a0,a1,a2,a3] t (0,0))):(∀z:Bl W,z.val.cell? ⟨g,0,none⟩=some a0)/\(∀z:Bl W,z.val.cell? ⟨g,1,none⟩=some a1)/\(∀z:Bl W,z.val.cell? ⟨g,2,none⟩=some a2)/\(∀z:Bl W,z.val.cell? ⟨g,3,none⟩=some a3):=⟨bX h rfl,bX h rfl,bX h rfl,bX h rfl⟩
theorem kc5{W:World}{g:Nat}{a0 a1 a2 a3 a4:Value}{t:TypeId}(h:W.heap[g]?=some (.cells #[a0,a1,a2,a3,a4] t (0,0))):(∀z:Bl W,z.val.cell? ⟨g,0,none⟩=some a0)/\(∀z:Bl W,z.val.cell? ⟨g,1,none⟩=some a1)/\(∀z:Bl W,z.val.cell? ⟨g,2,none⟩=some a2)/\(∀z:Bl W,z.val.cell? ⟨g,3,none⟩=some a3)/\(∀z:Bl W,z.val.cell? ⟨g,4,none⟩=some a4):=⟨bX h rfl,bX h rfl,bX h rfl,bX h rfl,bX h rfl⟩
theorem kc6{W:World}{g:Nat}{a0 a1 a2 a3 a4 a5:Value}{t:TypeId}(h:W.heap[g]?=some (.cells #[a0,a1,a2,a3,a4,a5] t (0,0))):(∀z:Bl W,z.val.cell? ⟨g,0,none⟩=some a0)/\(∀z:Bl W,z.val.cell? ⟨g,1,none⟩=some a1)/\(∀z:Bl W,z.val.cell? ⟨g,2,none⟩=some a2)/\(∀z:Bl W,z.val.cell? ⟨g,3,none⟩=some a3)/\(∀z:Bl W,z.val.cell? ⟨g,4,none⟩=some a4)/\(∀z:Bl W,z.val.cell? ⟨g,5,none⟩=some a5):=⟨bX h rfl,bX h rfl,bX h rfl,bX h rfl,bX h rfl,bX h rfl⟩
theorem CS{W:World}{g:Nat}{a0 a1 a2 a3 a4 a5 a6:Value}{t:TypeId}(h:W.heap[g]?=some (.cells #[a0,a1,a2,a3,a4,a5,a6] t (0,0))):(∀z:Bl W,z.val.cell? ⟨g,0,none⟩=some a0)/\(∀z:Bl W,z.val.cell? ⟨g,1,none⟩=some a1)/\(∀z:Bl W,z.val.cell? ⟨g,2,none⟩=some a2)/\(∀z:Bl W,z.val.cell? ⟨g,3,none⟩=some a3)/\(∀z:Bl W,z.val.cell? ⟨g,4,none⟩=some a4)/\(∀z:Bl W,z.val.cell? ⟨g,5,none⟩=some a5)/\(∀z:Bl W,z.val.cell? ⟨g,6,none⟩=some a6):=⟨bX h rfl,bX h rfl,bX h rfl,bX h rfl,bX h rfl,bX h rfl,bX h rfl⟩
theorem aoy{W:World}{g:Nat}{a0 a1 a2 a3 a4 a5 a6 a7 a8 a9 WY WZ a12 W_:Value}{t:TypeId}(h:W.heap[g]?=some (.cells #[a0,a1,a2,a3,a4,a5,a6,a7,a8,a9,WY,WZ,a12,W_] t (0,0))):(∀z:Bl W,z.val.cell? ⟨g,0,none⟩=some a0)/\(∀z:Bl W,z.val.cell? ⟨g,1,none⟩=some a1)/\(∀z:Bl W,z.val.cell? ⟨g,2,none⟩=some a2)/\(∀z:Bl W,z.val.cell? ⟨g,3,none⟩=some a3)/\(∀z:Bl W,z.val.cell? ⟨g,4,none⟩=some a4)/\(∀z:Bl W,z.val.cell? ⟨g,5,none⟩=some a5)/\(∀z:Bl W,z.val.cell? ⟨g,6,none⟩=some a6)/\(∀z:Bl W,z.val.cell? ⟨g,7,none⟩=some a7)/\(∀z:Bl W,z.val.cell? ⟨g,8,none⟩=some a8)/\(∀z:Bl W,z.val.cell? ⟨g,9,none⟩=some a9)/\(∀z:Bl W,z.val.cell? ⟨g,10,none⟩=some WY)/\(∀z:Bl W,z.val.cell? ⟨g,11,none⟩=some WZ)/\(∀z:Bl W,z.val.cell? ⟨g,12,none⟩=some a12)/\(∀z:Bl W,z.val.cell? ⟨g,13,none⟩=some W_):=⟨bX h rfl,bX h rfl,bX h rfl,bX h rfl,bX h rfl,bX h rfl,bX h rfl,bX h rfl,bX h rfl,bX h rfl,bX h rfl,bX h rfl,bX h rfl,bX h rfl⟩
theorem Z0{W:World}{g:Nat}{a0 a1 a2 a3 a4 a5 a6 a7 a8 a9 WY WZ a12 W_ a14 a15:Value}{t:TypeId}(h:W.heap[g]?=some (.cells #[a0,a1,a2,a3,a4,a5,a6,a7,a8,a9,WY,WZ,a12,W_,a14,a15] t (0,0))):(∀z:Bl W,z.val.cell? ⟨g,0,none⟩=some a0)/\(∀z:Bl W,z.val.cell? ⟨g,1,none⟩=some a1)/\(∀z:Bl W,z.val.cell? ⟨g,2,none⟩=some a2)/\(∀z:Bl W,z.val.cell? ⟨g,3,none⟩=some a3)/\(∀z:Bl W,z.val.cell? ⟨g,4,none⟩=some a4)/\(∀z:Bl W,z.val.cell? ⟨g,5,none⟩=some a5)/\(∀z:Bl W,z.val.cell? ⟨g,6,none⟩=some a6)/\(∀z:Bl W,z.val.cell? ⟨g,7,none⟩=some a7)/\(∀z:Bl W,z.val.cell? ⟨g,8,none⟩=some a8)/\(∀z:Bl W,z.val.cell? ⟨g,9,none⟩=some a9)/\(∀z:Bl W,z.val.cell? ⟨g,10,none⟩=some WY)/\(∀z:Bl W,z.val.cell? ⟨g,11,none⟩=some WZ)/\(∀z:Bl W,z.val.cell? ⟨g,12,none⟩=some a12)/\(∀z:Bl W,z.val.cell? ⟨g,13,none⟩=some W_)/\(∀z:Bl W,z.val.cell? ⟨g,14,none⟩=some a14)/\(∀z:Bl W,z.val.cell? ⟨g,15,none⟩=some a15):=⟨bX h rfl,bX h rfl,bX h rfl,bX h rfl,bX h rfl,bX h rfl,bX h rfl,bX h rfl,bX h rfl,bX h rfl,bX h rfl,bX h rfl,bX h rfl,bX h rfl,bX h rfl,bX h rfl⟩
theorem Np{w:World}{o:Obj}:(w.alloc o).heap[w.heap.size]?=some o:=bK w o
theorem lZ{w:World}{o:Obj}{n:Nat}(h:w.heap.size=n):(w.alloc o).heap[n]?=some o:=by subst h;exact bK w o
theorem dh{w:World}{o:Obj}{i:Nat}{x:Option Obj}(h:i<w.heap.size)(h2:w.heap[i]?=x):(w.alloc o).heap[i]?=x:=(Below.heap_alloc w o i h).trans h2
theorem ou{W:World}{g i:Nat}{cs:Array Value}{t:TypeId}(h:W.heap[g]?=some (.cells cs t (0,0))):∀z:Bl W,z.val.frozen? ⟨g,i,none⟩=false:=λz=>by rw[(aL z.prop).2 _ _ (aB h)];simp[World.frozen?,h]
theorem bx1'{w W0:World}{o:Obj}(h:w.alloc o=W0):Below w.heap.size w W0/\W0.heap[w.heap.size]?=some o:=by subst h;exact⟨aJ (aC _ _) _,Np⟩
theorem bx1{w W0:World}{o0:Obj}(h:(w.alloc o0)=W0):Hid (Below w.heap.size w W0)/\W0.heap[w.heap.size]?=some o0:=by subst h;exact⟨aJ (aC _ _) _,Np⟩
theorem F5{w W0:World}{o0 o1:Obj}(h:((w.alloc o0).alloc o1)=W0):Hid (Below w.heap.size w W0)/\W0.heap[w.heap.size]?=some o0/\W0.heap[w.heap.size+1]?=some o1:=by subst h;exact⟨aJ (aJ (aC _ _) _) _,(dh (by simp only[aT];omega) Np),(lZ (by simp only[aT]))⟩
theorem bx3{w W0:World}{o0 o1 o2:Obj}(h:(((w.alloc o0).alloc o1).alloc o2)=W0):Hid (Below w.heap.size w W0)/\W0.heap[w.heap.size]?=some o0/\W0.heap[w.heap.size+1]?=some o1/\W0.heap[w.heap.size+1+1]?=some o2:=by subst h;exact⟨aJ (aJ (aJ (aC _ _) _) _) _,(dh (by simp only[aT];omega) (dh (by simp only[aT];omega) Np)),(dh (by simp only[aT];omega) (lZ (by simp only[aT]))),(lZ (by simp only[aT]))⟩
theorem bx4{w W0:World}{o0 o1 o2 o3:Obj}(h:((((w.alloc o0).alloc o1).alloc o2).alloc o3)=W0):Hid (Below w.heap.size w W0)/\W0.heap[w.heap.size]?=some o0/\W0.heap[w.heap.size+1]?=some o1/\W0.heap[w.heap.size+1+1]?=some o2/\W0.heap[w.heap.size+1+1+1]?=some o3:=by subst h;exact⟨aJ (aJ (aJ (aJ (aC _ _) _) _) _) _,(dh (by simp only[aT];omega) (dh (by simp only[aT];omega) (dh (by simp only[aT];omega) Np))),(dh (by simp only[aT];omega) (dh (by simp only[aT];omega) (lZ (by simp only[aT])))),(dh (by simp only[aT];omega) (lZ (by simp only[aT]))),(lZ (by simp only[aT]))⟩
theorem bx5{w W0:World}{o0 o1 o2 o3 o4:Obj}(h:(((((w.alloc o0).alloc o1).alloc o2).alloc o3).alloc o4)=W0):Hid (Below w.heap.size w W0)/\W0.heap[w.heap.size]?=some o0/\W0.heap[w.heap.size+1]?=some o1/\W0.heap[w.heap.size+1+1]?=some o2/\W0.heap[w.heap.size+1+1+1]?=some o3/\W0.heap[w.heap.size+1+1+1+1]?=some o4:=by subst h;exact⟨aJ (aJ (aJ (aJ (aJ (aC _ _) _) _) _) _) _,(dh (by simp only[aT];omega) (dh (by simp only[aT];omega) (dh (by simp only[aT];omega) (dh (by simp only[aT];omega) Np)))),(dh (by simp only[aT];omega) (dh (by simp only[aT];omega) (dh (by simp only[aT];omega) (lZ (by simp only[aT]))))),(dh (by simp only[aT];omega) (dh (by simp only[aT];omega) (lZ (by simp only[aT])))),(dh (by simp only[aT];omega) (lZ (by simp only[aT]))),(lZ (by simp only[aT]))⟩
theorem bx6{w W0:World}{o0 o1 o2 o3 o4 o5:Obj}(h:((((((w.alloc o0).alloc o1).alloc o2).alloc o3).alloc o4).alloc o5)=W0):Hid (Below w.heap.size w W0)/\W0.heap[w.heap.size]?=some o0/\W0.heap[w.heap.size+1]?=some o1/\W0.heap[w.heap.size+1+1]?=some o2/\W0.heap[w.heap.size+1+1+1]?=some o3/\W0.heap[w.heap.size+1+1+1+1]?=some o4/\W0.heap[w.heap.size+1+1+1+1+1]?=some o5:=by subst h;exact⟨aJ (aJ (aJ (aJ (aJ (aJ (aC _ _) _) _) _) _) _) _,(dh (by simp only[aT];omega) (dh (by simp only[aT];omega) (dh (by simp only[aT];omega) (dh (by simp only[aT];omega) (dh (by simp only[aT];omega) Np))))),(dh (by simp only[aT];omega) (dh (by simp only[aT];omega) (dh (by simp only[aT];omega) (dh (by simp only[aT];omega) (lZ (by simp only[aT])))))),(dh (by simp only[aT];omega) (dh (by simp only[aT];omega) (dh (by simp only[aT];omega) (lZ (by simp only[aT]))))),(dh (by simp only[aT];omega) (dh (by simp only[aT];omega) (lZ (by simp only[aT])))),(dh (by simp only[aT];omega) (lZ (by simp only[aT]))),(lZ (by simp only[aT]))⟩
theorem bx7{w W0:World}{o0 o1 o2 o3 o4 o5 o6:Obj}(h:(((((((w.alloc o0).alloc o1).alloc o2).alloc o3).alloc o4).alloc o5).alloc o6)=W0):Hid (Below w.heap.size w W0)/\W0.heap[w.heap.size]?=some o0/\W0.heap[w.heap.size+1]?=some o1/\W0.heap[w.heap.size+1+1]?=some o2/\W0.heap[w.heap.size+1+1+1]?=some o3/\W0.heap[w.heap.size+1+1+1+1]?=some o4/\W0.heap[w.heap.size+1+1+1+1+1]?=some o5/\W0.heap[w.heap.size+1+1+1+1+1+1]?=some o6:=by subst h;exact⟨aJ (aJ (aJ (aJ (aJ (aJ (aJ (aC _ _) _) _) _) _) _) _) _,(dh (by simp only[aT];omega) (dh (by simp only[aT];omega) (dh (by simp only[aT];omega) (dh (by simp only[aT];omega) (dh (by simp only[aT];omega) (dh (by simp only[aT];omega) Np)))))),(dh (by simp only[aT];omega) (dh (by simp only[aT];omega) (dh (by simp only[aT];omega) (dh (by simp only[aT];omega) (dh (by simp only[aT];omega) (lZ (by simp only[aT]))))))),(dh (by simp only[aT];omega) (dh (by simp only[aT];omega) (dh (by simp only[aT];omega) (dh (by simp only[aT];omega) (lZ (by simp only[aT])))))),(dh (by simp only[aT];omega) (dh (by simp only[aT];omega) (dh (by simp only[aT];omega) (lZ (by simp only[aT]))))),(dh (by simp only[aT];omega) (dh (by simp only[aT];omega) (lZ (by simp only[aT])))),(dh (by simp only[aT];omega) (lZ (by simp only[aT]))),(lZ (by simp only[aT]))⟩
theorem rw4{W:World}{b o:Nat}{L:List Value}{a0 a1 a2 a3:Value}(h:∀j,j<4->W.cell? ⟨b,o+j,none⟩=L[j]?)(e:L=[a0,a1,a2,a3]):W.cell? ⟨b,o,none⟩=some a0/\W.cell? ⟨b,o+1,none⟩=some a1/\W.cell? ⟨b,o+2,none⟩=some a2/\W.cell? ⟨b,o+3,none⟩=some a3:=by subst e;exact⟨h 0 (by omega),h 1 (by omega),h 2 (by omega),h 3 (by omega)⟩
theorem rz4{W:World}{b o:Nat}{L:List Value}{a0 a1 a2 a3:Value}(h:∀z,Below W.heap.size W z->∀j,j<4->z.cell? ⟨b,o+j,none⟩=L[j]?)(e:L=[a0,a1,a2,a3]):(∀z:Bl W,z.val.cell? ⟨b,o,none⟩=some a0)/\(∀z:Bl W,z.val.cell? ⟨b,o+1,none⟩=some a1)/\(∀z:Bl W,z.val.cell? ⟨b,o+2,none⟩=some a2)/\(∀z:Bl W,z.val.cell? ⟨b,o+3,none⟩=some a3):=by subst e;exact⟨λz=>h z.val z.prop 0 (by omega),λz=>h z.val z.prop 1 (by omega),λz=>h z.val z.prop 2 (by omega),λz=>h z.val z.prop 3 (by omega)⟩
theorem rw5{W:World}{b o:Nat}{L:List Value}{a0 a1 a2 a3 a4:Value}(h:∀j,j<5->W.cell? ⟨b,o+j,none⟩=L[j]?)(e:L=[a0,a1,a2,a3,a4]):W.cell? ⟨b,o,none⟩=some a0/\W.cell? ⟨b,o+1,none⟩=some a1/\W.cell? ⟨b,o+2,none⟩=some a2/\W.cell? ⟨b,o+3,none⟩=some a3/\W.cell? ⟨b,o+4,none⟩=some a4:=by subst e;exact⟨h 0 (by omega),h 1 (by omega),h 2 (by omega),h 3 (by omega),h 4 (by omega)⟩
theorem rz5{W:World}{b o:Nat}{L:List Value}{a0 a1 a2 a3 a4:Value}(h:∀z,Below W.heap.size W z->∀j,j<5->z.cell? ⟨b,o+j,none⟩=L[j]?)(e:L=[a0,a1,a2,a3,a4]):(∀z:Bl W,z.val.cell? ⟨b,o,none⟩=some a0)/\(∀z:Bl W,z.val.cell? ⟨b,o+1,none⟩=some a1)/\(∀z:Bl W,z.val.cell? ⟨b,o+2,none⟩=some a2)/\(∀z:Bl W,z.val.cell? ⟨b,o+3,none⟩=some a3)/\(∀z:Bl W,z.val.cell? ⟨b,o+4,none⟩=some a4):=by subst e;exact⟨λz=>h z.val z.prop 0 (by omega),λz=>h z.val z.prop 1 (by omega),λz=>h z.val z.prop 2 (by omega),λz=>h z.val z.prop 3 (by omega),λz=>h z.val z.prop 4 (by omega)⟩
theorem rw7{W:World}{b o:Nat}{L:List Value}{a0 a1 a2 a3 a4 a5 a6:Value}(h:∀j,j<7->W.cell? ⟨b,o+j,none⟩=L[j]?)(e:L=[a0,a1,a2,a3,a4,a5,a6]):W.cell? ⟨b,o,none⟩=some a0/\W.cell? ⟨b,o+1,none⟩=some a1/\W.cell? ⟨b,o+2,none⟩=some a2/\W.cell? ⟨b,o+3,none⟩=some a3/\W.cell? ⟨b,o+4,none⟩=some a4/\W.cell? ⟨b,o+5,none⟩=some a5/\W.cell? ⟨b,o+6,none⟩=some a6:=by subst e;exact⟨h 0 (by omega),h 1 (by omega),h 2 (by omega),h 3 (by omega),h 4 (by omega),h 5 (by omega),h 6 (by omega)⟩
theorem rz7{W:World}{b o:Nat}{L:List Value}{a0 a1 a2 a3 a4 a5 a6:Value}(h:∀z,Below W.heap.size W z->∀j,j<7->z.cell? ⟨b,o+j,none⟩=L[j]?)(e:L=[a0,a1,a2,a3,a4,a5,a6]):(∀z:Bl W,z.val.cell? ⟨b,o,none⟩=some a0)/\(∀z:Bl W,z.val.cell? ⟨b,o+1,none⟩=some a1)/\(∀z:Bl W,z.val.cell? ⟨b,o+2,none⟩=some a2)/\(∀z:Bl W,z.val.cell? ⟨b,o+3,none⟩=some a3)/\(∀z:Bl W,z.val.cell? ⟨b,o+4,none⟩=some a4)/\(∀z:Bl W,z.val.cell? ⟨b,o+5,none⟩=some a5)/\(∀z:Bl W,z.val.cell? ⟨b,o+6,none⟩=some a6):=by subst e;exact⟨λz=>h z.val z.prop 0 (by omega),λz=>h z.val z.prop 1 (by omega),λz=>h z.val z.prop 2 (by omega),λz=>h z.val z.prop 3 (by omega),λz=>h z.val z.prop 4 (by omega),λz=>h z.val z.prop 5 (by omega),λz=>h z.val z.prop 6 (by omega)⟩
theorem EP{W:World}{b o:Nat}{L:List Value}{a0 a1 a2 a3 a4 a5 a6 a7 a8 a9 WY WZ a12 W_ a14 a15:Value}(h:∀j,j<16->W.cell? ⟨b,o+j,none⟩=L[j]?)(e:L=[a0,a1,a2,a3,a4,a5,a6,a7,a8,a9,WY,WZ,a12,W_,a14,a15]):W.cell? ⟨b,o,none⟩=some a0/\W.cell? ⟨b,o+1,none⟩=some a1/\W.cell? ⟨b,o+2,none⟩=some a2/\W.cell? ⟨b,o+3,none⟩=some a3/\W.cell? ⟨b,o+4,none⟩=some a4/\W.cell? ⟨b,o+5,none⟩=some a5/\W.cell? ⟨b,o+6,none⟩=some a6/\W.cell? ⟨b,o+7,none⟩=some a7/\W.cell? ⟨b,o+8,none⟩=some a8/\W.cell? ⟨b,o+9,none⟩=some a9/\W.cell? ⟨b,o+10,none⟩=some WY/\W.cell? ⟨b,o+11,none⟩=some WZ/\W.cell? ⟨b,o+12,none⟩=some a12/\W.cell? ⟨b,o+13,none⟩=some W_/\W.cell? ⟨b,o+14,none⟩=some a14/\W.cell? ⟨b,o+15,none⟩=some a15:=by subst e;exact⟨h 0 (by omega),h 1 (by omega),h 2 (by omega),h 3 (by omega),h 4 (by omega),h 5 (by omega),h 6 (by omega),h 7 (by omega),h 8 (by omega),h 9 (by omega),h 10 (by omega),h 11 (by omega),h 12 (by omega),h 13 (by omega),h 14 (by omega),h 15 (by omega)⟩
theorem aoz{W:World}{b o:Nat}{L:List Value}{a0 a1 a2 a3 a4 a5 a6 a7 a8 a9 WY WZ a12 W_ a14 a15:Value}(h:∀z,Below W.heap.size W z->∀j,j<16->z.cell? ⟨b,o+j,none⟩=L[j]?)(e:L=[a0,a1,a2,a3,a4,a5,a6,a7,a8,a9,WY,WZ,a12,W_,a14,a15]):(∀z:Bl W,z.val.cell? ⟨b,o,none⟩=some a0)/\(∀z:Bl W,z.val.cell? ⟨b,o+1,none⟩=some a1)/\(∀z:Bl W,z.val.cell? ⟨b,o+2,none⟩=some a2)/\(∀z:Bl W,z.val.cell? ⟨b,o+3,none⟩=some a3)/\(∀z:Bl W,z.val.cell? ⟨b,o+4,none⟩=some a4)/\(∀z:Bl W,z.val.cell? ⟨b,o+5,none⟩=some a5)/\(∀z:Bl W,z.val.cell? ⟨b,o+6,none⟩=some a6)/\(∀z:Bl W,z.val.cell? ⟨b,o+7,none⟩=some a7)/\(∀z:Bl W,z.val.cell? ⟨b,o+8,none⟩=some a8)/\(∀z:Bl W,z.val.cell? ⟨b,o+9,none⟩=some a9)/\(∀z:Bl W,z.val.cell? ⟨b,o+10,none⟩=some WY)/\(∀z:Bl W,z.val.cell? ⟨b,o+11,none⟩=some WZ)/\(∀z:Bl W,z.val.cell? ⟨b,o+12,none⟩=some a12)/\(∀z:Bl W,z.val.cell? ⟨b,o+13,none⟩=some W_)/\(∀z:Bl W,z.val.cell? ⟨b,o+14,none⟩=some a14)/\(∀z:Bl W,z.val.cell? ⟨b,o+15,none⟩=some a15):=by subst e;exact⟨λz=>h z.val z.prop 0 (by omega),λz=>h z.val z.prop 1 (by omega),λz=>h z.val z.prop 2 (by omega),λz=>h z.val z.prop 3 (by omega),λz=>h z.val z.prop 4 (by omega),λz=>h z.val z.prop 5 (by omega),λz=>h z.val z.prop 6 (by omega),λz=>h z.val z.prop 7 (by omega),λz=>h z.val z.prop 8 (by omega),λz=>h z.val z.prop 9 (by omega),λz=>h z.val z.prop 10 (by omega),λz=>h z.val z.prop 11 (by omega),λz=>h z.val z.prop 12 (by omega),λz=>h z.val z.prop 13 (by omega),λz=>h z.val z.prop 14 (by omega),λz=>h z.val z.prop 15 (by omega)⟩
end
open Go.RowKit
theorem iW(a:Bool):a=cond a true false:=by cases a<;>rfl
theorem Na:(∀{α:Type}(a b:Bool)(x y:α),cond (a&&b) x y=cond a (cond b x y) y)/\(∀{α:Type}(a b:Bool)(x y:α),cond (a||b) x y=cond a x (cond b x y))/\(∀{α:Type}(a:Bool)(x y:α),cond (!a) x y=cond a y x)/\(∀{α:Type}(a b c:Bool)(x y:α),cond (cond a b c) x y=cond a (cond b x y) (cond c x y))/\(∀{α:Type}(x y:α),cond true x y=x)/\(∀{α:Type}(x y:α),cond false x y=y):=by
 refine⟨?_,?_,?_,?_,?_,?_⟩;all_goals
  intro α
  intros
  first
   |rfl
   |(rename_i a b x y;cases a<;>rfl)
   |(rename_i a x y;cases a<;>rfl)
   |(rename_i a b c x y;cases a<;>rfl)
theorem mP{α:Type}{x y:Int}{A B E:α}(h:cond (x==y) A B=E):((x==y)=true/\(x !=y)=false/\A=E)\/((x==y)=false/\(x !=y)=true/\B=E):=by
 cases q:(x==y)<;>rw[q]at h
 .exact .inr ⟨rfl,by simp[bne,q],h⟩
 .exact .inl ⟨rfl,by simp[bne,q],h⟩
theorem uI{α:Type}{a:Bool}{A B E:α}(h:cond a A B=E)(e:a=true):A=E:=by subst e;exact h
theorem uJ{α:Type}{a:Bool}{A B E:α}(h:cond a A B=E)(e:a=false):B=E:=by subst e;exact h
theorem jL{α:Type}{a:Bool}{A B E:α}(h:cond a A B=E):(a=true/\A=E)\/(a=false/\B=E):=by cases a<;>simp_all
theorem lit{f:FuncId}{a:Array Value}{w:World}{b c:Bool}(h:Calls Tryz.prog f a w (dZ (.bool b) w))(e:b=c):Calls Tryz.prog f a w (dZ (.bool c) w):=e▸h
end Go.Proofs.YtpmdedcnbockhaaGreatDoor

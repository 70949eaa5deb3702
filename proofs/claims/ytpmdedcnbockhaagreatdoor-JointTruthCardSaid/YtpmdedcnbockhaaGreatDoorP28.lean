/-
  CuD; CuE; CuF; CuG; CuH; CuP; CuQ
-/
import Derived.Test.YtpmdedcnbockhaaGreatDoorP27
namespace Go.Proofs.YtpmdedcnbockhaaGreatDoor
section
open Go.RowKit Go.Shelf
end
section
open Go.RowKit Go.Shelf
attribute [local go_sem] jS stillUpon bK
end
section
open Go.RowKit Go.Shelf
attribute [local go_sem] jS stillUpon bK
def ade(C:au)(w:World)(e:Ending)(w':World):Prop:=
 ∃(hA:Option Addr)(hc:Nat)(uA:Option Addr)(uc:Nat)(aA:Option Addr)(ac:Nat)(kA:Option Addr)(kc:Nat)(oA:Option Addr)(oc:Nat),e= .returned (CV.val ⟨⟨hA,hc⟩,⟨uA,uc⟩,⟨aA,ac⟩,⟨kA,kc⟩,⟨oA,oc⟩⟩ C)/\bU w' ⟨⟨hA,hc⟩,⟨uA,uc⟩,⟨aA,ac⟩,⟨kA,kc⟩,⟨oA,oc⟩⟩ C/\Below w.heap.size w w'
theorem xX{w:World}{size n g:Nat}{xs:List Value}{t:TypeId}(h:w.heap[g]?=some (.cells xs.toArray t (0,0)))(hl:xs.length=n*size)(h1:∀u∈xs,u.oneCell'=true)(hn:n<=maxLen):At w size (some ⟨g,0,none⟩) n n xs:=by
 refine⟨⟨hl,h1,λ_=>⟨_,rfl,λj u hj=>?_⟩⟩,(λh=>by cases h),bH _,hn⟩;rw[Addr.add_lit,aG _ _ (0+j) _ _ _ h];simpa using hj
end
section
open Go.RowKit Go.Shelf
theorem adf{fs:List bR}(h:∀x∈aL fs,1<=x.ref/\x.ref<=2):∀x∈aL fs,gW x.ref:=λx hx=>by
 have:=h x hx;exact SH (by omega) (by omega)
end
section
open Go.RowKit Go.Shelf
end
section
open Go.RowKit Go.Shelf
theorem tC.distinct{L T:List aB}{O OO:List aX}(h:tC L O T OO):bB T:=h.tight.distinct (kM L)
theorem yL.mem{C:au}{f:bR}{u:Int}{L:List (List Int)}(h:yL C f u L 0):fZ C f=true/\0<=u/\u<=C.days/\∃T OO,tC f.facts f.orders T OO/\∀x,x∈L↔∃day,Day T OO u day/\x=gM T (pz T day) u:=by
 rcases h with⟨h,_⟩|⟨h1,h2,h3,⟨h,_⟩|⟨T,OO,Y,hf,hy,⟨h,_⟩|⟨_,_,rfl⟩⟩⟩
 .cases h
 .cases h
 .cases h
 .refine⟨h1,h2,h3,T,OO,hf,λx=>?_⟩
  rw[U3,dU];constructor
  .rintro⟨D,hD,rfl⟩
   obtain⟨day,rfl,hd⟩:=(hy.mem D).1 hD;exact⟨day,hd,rfl⟩
  .rintro⟨day,hd,rfl⟩
   exact⟨_,(hy.mem _).2 ⟨day,rfl,hd⟩,rfl⟩
theorem Rf{C:au}{f:bR}{T:List aB}{OO:List aX}(hok:fZ C f=true)(h:tC f.facts f.orders T OO):KL T:=λt ht=>by
 have hd:=iZ (nu hok);have h1:=h.tight;rw[qD hd]at h1;obtain⟨x,hx,e⟩:=h1.had ht;have h2:=rM (ku (nu hok) x hx).2;have h3:x.act=t.act:=congrArg (λz=>z.2.1) e;omega
end
open Go.RowKit Go.Shelf
structure vK(V:World)(cb:Nat)(v:CV)(C:au):Prop where
 con:bU V v C
 n_:Own V 27 cb [.int .i64 C.aF,.slice v.h.A C.aj.length v.h.c,.slice v.u.A C.units.length v.u.c,.slice v.a.A C.acts.length v.a.c,.slice v.k.A C.clauses.length v.k.c,.int .i64 C.days,.slice v.o.A C.off.length v.o.c]
theorem vK.below{V V':World}{cb:Nat}{v:CV}{C:au}(h:vK V cb v C)(hb:Below V.heap.size V V'):vK V' cb v C:=⟨h.con.below hb,h.n_.below hb⟩
theorem vK.cells{V:World}{cb:Nat}{v:CV}{C:au}(h:vK V cb v C):
 V.cell? ⟨cb,0,none⟩=some (.int .i64 C.aF)/\V.cell? ⟨cb,1,none⟩=some (.slice v.h.A C.aj.length v.h.c)/\V.cell? ⟨cb,2,none⟩=some (.slice v.u.A C.units.length v.u.c)/\V.cell? ⟨cb,3,none⟩=some (.slice v.a.A C.acts.length v.a.c)/\V.cell? ⟨cb,4,none⟩=some (.slice v.k.A C.clauses.length v.k.c)/\V.cell? ⟨cb,5,none⟩=some (.int .i64 C.days)/\V.cell? ⟨cb,6,none⟩=some (.slice v.o.A C.off.length v.o.c):=
 ⟨h.n_.cell rfl,h.n_.cell rfl,h.n_.cell rfl,h.n_.cell rfl,h.n_.cell rfl,h.n_.cell rfl,h.n_.cell rfl⟩
structure adg(V:World)(fb:Nat)(t:FV)(f:bR):Prop where
 file:fM V t f
 Q8:Own V 31 fb [.int .i64 f.house,.slice t.f.A f.facts.length t.f.c,.slice t.o.A f.orders.length t.o.c]
theorem adg.cells{V:World}{fb:Nat}{t:FV}{f:bR}(h:adg V fb t f):V.cell? ⟨fb,0,none⟩=some (.int .i64 f.house)/\V.cell? ⟨fb,1,none⟩=some (.slice t.f.A f.facts.length t.f.c)/\V.cell? ⟨fb,2,none⟩=some (.slice t.o.A f.orders.length t.o.c):=⟨h.Q8.cell rfl,h.Q8.cell rfl,h.Q8.cell rfl⟩
end Go.Proofs.YtpmdedcnbockhaaGreatDoor

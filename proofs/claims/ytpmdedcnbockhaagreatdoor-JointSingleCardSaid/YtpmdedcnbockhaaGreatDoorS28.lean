/- part -/
import Derived.Test.YtpmdedcnbockhaaGreatDoorS27
namespace Go.Proofs.YtpmdedcnbockhaaGreatDoor
section
open Go.RowKit Go.Shelf
end
section
open Go.RowKit Go.Shelf
attribute [local go_sem] kD stillUpon bM
end
section
open Go.RowKit Go.Shelf
attribute [local go_sem] kD stillUpon bM
def aeu(C:au)(w:World)(e:Ending)(w':World):Prop:=
 ∃(hA:Option Addr)(hc:Nat)(uA:Option Addr)(uc:Nat)(aA:Option Addr)(ac:Nat)(kA:Option Addr)(kc:Nat)(oA:Option Addr)(oc:Nat),e= .returned (CV.val ⟨⟨hA,hc⟩,⟨uA,uc⟩,⟨aA,ac⟩,⟨kA,kc⟩,⟨oA,oc⟩⟩ C)/\bO w' ⟨⟨hA,hc⟩,⟨uA,uc⟩,⟨aA,ac⟩,⟨kA,kc⟩,⟨oA,oc⟩⟩ C/\Below w.heap.size w w'
theorem vZ{w:World}{size n g:Nat}{xs:List Value}{t:TypeId}(h:w.heap[g]?=some (.cells xs.toArray t (0,0)))(hl:xs.length=n*size)(h1:∀u∈xs,u.oneCell'=true)(hn:n<=maxLen):At w size (some ⟨g,0,none⟩) n n xs:=by
 refine⟨⟨hl,h1,λ_=>⟨_,rfl,λj u hj=>?_⟩⟩,(λh=>by cases h),bJ _,hn⟩;rw[Addr.add_lit,aK _ _ (0+j) _ _ _ h];simpa using hj
end
section
open Go.RowKit Go.Shelf
theorem aev{fs:List bR}(h:∀x∈aM fs,1<=x.ref/\x.ref<=2):∀x∈aM fs,iK x.ref:=λx hx=>by
 have:=h x hx;exact Ud (by omega) (by omega)
end
section
open Go.RowKit Go.Shelf
end
section
open Go.RowKit Go.Shelf
theorem tY.distinct{L T:List ay}{O OO:List aX}(h:tY L O T OO):bF T:=h.tight.distinct (lJ L)
theorem zI.mem{C:au}{f:bR}{u:Int}{L:List (List Int)}(h:zI C f u L 0):gN C f=true/\0<=u/\u<=C.days/\∃T OO,tY f.facts f.orders T OO/\∀x,x∈L↔∃day,Day T OO u day/\x=gY T (qh T day) u:=by
 rcases h with⟨h,_⟩|⟨h1,h2,h3,⟨h,_⟩|⟨T,OO,Y,hf,hy,⟨h,_⟩|⟨_,_,rfl⟩⟩⟩
 .cases h
 .cases h
 .cases h
 .refine⟨h1,h2,h3,T,OO,hf,λx=>?_⟩
  rw[VT,cZ];constructor
  .rintro⟨D,hD,rfl⟩
   obtain⟨day,rfl,hd⟩:=(hy.mem D).1 hD;exact⟨day,hd,rfl⟩
  .rintro⟨day,hd,rfl⟩
   exact⟨_,(hy.mem _).2 ⟨day,rfl,hd⟩,rfl⟩
theorem Sc{C:au}{f:bR}{T:List ay}{OO:List aX}(hok:gN C f=true)(h:tY f.facts f.orders T OO):Lv T:=λt ht=>by
 have hd:=jq (nS hok);have h1:=h.tight;rw[qR hd]at h1;obtain⟨x,hx,e⟩:=h1.had ht;have h2:=sG (kV (nS hok) x hx).2;have h3:x.act=t.act:=congrArg (λz=>z.2.1) e;omega
end
open Go.RowKit Go.Shelf
structure wh(V:World)(cb:Nat)(v:CV)(C:au):Prop where
 con:bO V v C
 Fw:Own V 27 cb [.int .i64 C.aF,.slice v.h.A C.aj.length v.h.c,.slice v.u.A C.units.length v.u.c,.slice v.a.A C.acts.length v.a.c,.slice v.k.A C.clauses.length v.k.c,.int .i64 C.days,.slice v.o.A C.off.length v.o.c]
theorem wh.below{V V':World}{cb:Nat}{v:CV}{C:au}(h:wh V cb v C)(hb:Below V.heap.size V V'):wh V' cb v C:=⟨h.con.below hb,h.Fw.below hb⟩
theorem wh.cells{V:World}{cb:Nat}{v:CV}{C:au}(h:wh V cb v C):
 V.cell? ⟨cb,0,none⟩=some (.int .i64 C.aF)/\V.cell? ⟨cb,1,none⟩=some (.slice v.h.A C.aj.length v.h.c)/\V.cell? ⟨cb,2,none⟩=some (.slice v.u.A C.units.length v.u.c)/\V.cell? ⟨cb,3,none⟩=some (.slice v.a.A C.acts.length v.a.c)/\V.cell? ⟨cb,4,none⟩=some (.slice v.k.A C.clauses.length v.k.c)/\V.cell? ⟨cb,5,none⟩=some (.int .i64 C.days)/\V.cell? ⟨cb,6,none⟩=some (.slice v.o.A C.off.length v.o.c):=
 ⟨h.Fw.cell rfl,h.Fw.cell rfl,h.Fw.cell rfl,h.Fw.cell rfl,h.Fw.cell rfl,h.Fw.cell rfl,h.Fw.cell rfl⟩
structure aew(V:World)(fb:Nat)(t:FV)(f:bR):Prop where
 file:gJ V t f
 R6:Own V 31 fb [.int .i64 f.house,.slice t.f.A f.facts.length t.f.c,.slice t.o.A f.orders.length t.o.c]
theorem aew.cells{V:World}{fb:Nat}{t:FV}{f:bR}(h:aew V fb t f):V.cell? ⟨fb,0,none⟩=some (.int .i64 f.house)/\V.cell? ⟨fb,1,none⟩=some (.slice t.f.A f.facts.length t.f.c)/\V.cell? ⟨fb,2,none⟩=some (.slice t.o.A f.orders.length t.o.c):=⟨h.R6.cell rfl,h.R6.cell rfl,h.R6.cell rfl⟩
end Go.Proofs.YtpmdedcnbockhaaGreatDoor

/- part -/
import Derived.Test.YtjoohkjmoghmoaaGreatDoorP05
set_option linter.all false
namespace Go.Proofs.YtjoohkjmoghmoaaGreatDoor
section
section
variable {P:Program} {Y:YT} {g:FuncId} {f:FT} {h:AH} {n k:Nat} {F:Fm} {l:List AV} {s:List It} {r:List MR} {Q:PQ} {S:SK} {d:MD} {x:Ex}
@[go_sem ↓] theorem ado:sK P Y g (k+1) [] x f h n F Q=Q x h n F:=bD rfl
@[go_sem ↓] theorem akn {id:Nat}:sK P Y g (k+1) (.b id::s) x f h n F Q=sK P Y g k s (Ue x id) f h n F Q:=bD rfl
@[go_sem ↓] theorem abe:sK P Y g (k+1) (.c .skip::s) .bV f h n F Q=sK P Y g k s .bV f h n F Q:=bD rfl
@[go_sem ↓] theorem adp:sK P Y g (k+1) (.c (.reg r)::s) .bV f h n F Q=sK P Y g k (.r r []::s) .bV f h n F Q:=bD rfl
@[go_sem ↓] theorem adq {a b:MC}:sK P Y g (k+1) (.c (.seq a b)::s) .bV f h n F Q=sK P Y g k (.c a:: .c b::s) .bV f h n F Q:=bD rfl
@[go_sem ↓] theorem abf {c:MO} {a b:MC}:sK P Y g (k+1) (.c (.cond c a b)::s) .bV f h n F Q=kB (sK P Y g k) (ev c F []) a b s f h n F Q:=bD rfl
@[go_sem ↓] theorem adr {id:Nat} {a:MC}:sK P Y g (k+1) (.c (.blk id a)::s) .bV f h n F Q=sK P Y g k (.c a:: .b id::s) .bV f h n F Q:=bD rfl
@[go_sem ↓] theorem abg {id:Nat}:sK P Y g (k+1) (.c (.exit id)::s) .bV f h n F Q=sK P Y g k s (.exit id) f h n F Q:=bD rfl
@[go_sem ↓] theorem ads:sK P Y g (k+1) (.c .ret::s) .bV f h n F Q=sK P Y g k s .ret f h n F Q:=bD rfl
@[go_sem ↓] theorem abh {a:MC}:sK P Y g (k+1) (.c (.loop a)::s) .bV f h n F Q=SM P Y g (.c (.loop a)::s) .bV f h n F Q:=bD rfl
@[go_sem ↓] theorem adt {a:MO} {b:List Tmp} {c d:Code}:sK P Y g (k+1) (.c (.rng a b c d)::s) .bV f h n F Q=SM P Y g (.c (.rng a b c d)::s) .bV f h n F Q:=bD rfl
@[go_sem ↓] theorem adu {a:Nat} {b:List MQ} {c:List (Nat×Nat)} {d:List (Nat×Tmp)}:sK P Y g (k+1) (.c (.fV a b c d)::s) .bV f h n F Q=SM P Y g (.c (.fV a b c d)::s) .bV f h n F Q:=bD rfl
@[go_sem ↓] theorem ahb {id:Nat} {m:MC}:sK P Y g (k+1) (.c m::s) (.exit id) f h n F Q=sK P Y g k s (.exit id) f h n F Q:=bD rfl
@[go_sem ↓] theorem ahc {m:MC}:sK P Y g (k+1) (.c m::s) .ret f h n F Q=sK P Y g k s .ret f h n F Q:=bD rfl
@[go_sem ↓] theorem ahd:sK P Y g (k+1) (.r [] l::s) x f h n F Q=sK P Y g k s x f h n F Q:=bD rfl
@[go_sem ↓] theorem ahe {i:MI}:sK P Y g (k+1) (.r (⟨none,i,d⟩::r) l::s) .bV f h n F Q=jm P Y (sK P Y g k) i d r l s f h n F Q:=bD rfl
def kW(P:Program)(Y:YT)(S:SK)(o:Option AV)(w:Bool)(i:MI)(d:MD)(r:List MR)(l:List AV)(s:List It)(f:FT)(h:AH)(n:Nat)(F:Fm)(Q:PQ):Prop:=match o with
 |some (.b x)=>kG S (some (w==x)) i d r l s f h n F Q (jm P Y)
 |some (.bS _)=>mI S d (.bS []) r l s f h n F Q
 |_=>False
@[go_sem ↓] theorem ahf {a:MO} {w:Bool} {i:MI}:sK P Y g (k+1) (.r (⟨some (a,w),i,d⟩::r) l::s) .bV f h n F Q=kW P Y (sK P Y g k) (ev a F l) w i d r l s f h n F Q:=by
 show kG (sK P Y g k) (gO (some (a,w)) F l) i d r l s f h n F Q (jm P Y)=_;unfold gO kW;dsimp only;cases ev a F l with
 |none=>rfl
 |some v=>cases v<;>rfl
@[go_sem] theorem ako {i:MI} {w:Bool} {c:List AV}:kW P Y S (some (.bS c)) w i d r l s f h n F Q=mI S d (.bS []) r l s f h n F Q:=bD rfl
@[go_sem] theorem ahg {i:MI}:kW P Y S (some (.b true)) true i d r l s f h n F Q=jm P Y S i d r l s f h n F Q:=bD rfl
@[go_sem] theorem ahh {i:MI}:kW P Y S (some (.b false)) false i d r l s f h n F Q=jm P Y S i d r l s f h n F Q:=bD rfl
@[go_sem] theorem ahi {i:MI}:kW P Y S (some (.b true)) false i d r l s f h n F Q=mI S d (.bS []) r l s f h n F Q:=bD rfl
@[go_sem] theorem ahj {i:MI}:kW P Y S (some (.b false)) true i d r l s f h n F Q=mI S d (.bS []) r l s f h n F Q:=bD rfl
@[go_sem] theorem akp {a b:MC}:kB S (some (.b true)) a b s f h n F Q=S (.c a::s) .bV f h n F Q:=bD rfl
@[go_sem] theorem akq {a b:MC}:kB S (some (.b false)) a b s f h n F Q=S (.c b::s) .bV f h n F Q:=bD rfl
@[go_sem] theorem ahk {v:AV}:mI S .n v r l s f h n F Q=S (.r r l::s) .bV f h n F Q:=bD rfl
@[go_sem] theorem ahl {v:AV}:mI S .l v r l s f h n F Q=S (.r r (v::l)::s) .bV f h n F Q:=bD rfl
def kP(S:SK)(G:Fm)(r:List MR)(l:List AV)(s:List It)(f:FT)(h:AH)(n:Nat)(Q:PQ):Prop:=S (.r r l::s) .bV f h n G Q
@[go_sem ↓] theorem ahm {v:AV} {e:Nat}:mI S (.k e) v r l s f h n F Q=kP S (pt F e v) r l s f h n Q:=bD rfl
@[go_sem] theorem akr:kP S F r l s f h n Q=S (.r r l::s) .bV f h n F Q:=rfl
@[go_sem] theorem aks {v:AV}:kS S (some v) d r l s f h n F Q=mI S d v r l s f h n F Q:=bD rfl
@[go_sem] theorem akt {c:List AV} {e:TypeId} {v:AV}:kC S (some c) e v d r l s f h n F Q=mI S d v r l s f (h.set n (.row e c)) (n+1) F Q:=bD rfl
@[go_sem] theorem aku {b:Nat} {a:AO}:kH S b (some a) d r l s f h n F Q=mI S d (.bS []) r l s f (h.set b a) n F Q:=bD rfl
@[go_sem] theorem akv {b o:Nat} {u:Option (List AV)}:kT S (some (.p b o)) u d r l s f h n F Q=kH S b (fC (h.get b) o u) d r l s f h n F Q:=bD rfl
theorem E_{q:FuncId}{cap c:List AV}:kF Y S (some (.f q cap)) (some c) d r l s f h n F Q=CW f q (c++cap) h n λv h n=>mI S d v r l s f h n F Q:=rfl
theorem vC{q:Nat}{c:List AV}:kF Y S (some (.y q)) (some c) d r l s f h n F Q=RW (Y q c f h n) λv h n=>mI S d v r l s f h n F Q:=rfl
@[go_sem ↓] theorem adw {e:TypeId} {z:List AV}:jm P Y S (.al e z) d r l s f h n F Q=kC S (some z) e (.p n 0) d r l s f h n F Q:=bD rfl
@[go_sem ↓] theorem abj {e w:Nat} {x:MO}:jm P Y S (.box e w x) d r l s f h n F Q=kC S (Jh w (ev x F l)) e (.p n 0) d r l s f h n F Q:=bD rfl
@[go_sem ↓] theorem abk {e len:Nat} {z:List AV} {fs:List (Nat×Nat×MO)}:jm P Y S (.rP e len z fs) d r l s f h n F Q=kC S (colE fs F l z) e (.sl n 0 0 len (some len)) d r l s f h n F Q:=bD rfl
@[go_sem ↓] theorem adx {w:Nat} {a x:MO}:jm P Y S (.st w a x) d r l s f h n F Q=kT S (ev a F l) (Jh w (ev x F l)) d r l s f h n F Q:=bD rfl
@[go_sem ↓] theorem abl:jm P Y S .Ht d r l s f h n F Q=mI S d (.m n) r l s f (h.set n (.mp [] 0)) (n+1) F Q:=bD rfl
@[go_sem ↓] theorem abm {w:Nat} {x i:MO}:jm P Y S (.bJ w x i) d r l s f h n F Q=R8 S w (ev x F l) (ev i F l) d r l s f h n F Q:=bD rfl
@[go_sem ↓] theorem Yk {q:MO} {c:List MO}:jm P Y S (.call q c) d r l s f h n F Q=kF Y S (ev q F l) (evs c F l) d r l s f h n F Q:=bD rfl
@[go_sem ↓] theorem ady {x:MO}:jm P Y S (.mv x) d r l s f h n F Q=kS S (ev x F l) d r l s f h n F Q:=bD rfl
@[go_sem ↓] theorem Yl {c a b:MO}:jm P Y S (.pick c a b) d r l s f h n F Q=kS S (vZ (ev c F l) (ev a F l) (ev b F l)) d r l s f h n F Q:=bD rfl
@[go_sem ↓] theorem abo {z:List AV} {fs:List (Nat×Nat×MO)}:jm P Y S (.jk z fs) d r l s f h n F Q=kS S ((colE fs F l z).map .agg) d r l s f h n F Q:=bD rfl
@[go_sem ↓] theorem adz {w:Option Nat} {a:MO}:jm P Y S (.ld w a) d r l s f h n F Q=kS S (R4 h (ev a F l) w) d r l s f h n F Q:=bD rfl
@[go_sem ↓] theorem abp {op:BinOp} {ty:TypeId} {x y:MO}:jm P Y S (.bin op ty x y) d r l s f h n F Q=kS S (Yd P op ty (ev x F l) (ev y F l)) d r l s f h n F Q:=bD rfl
@[go_sem ↓] theorem abq {x:MO}:jm P Y S (.not x) d r l s f h n F Q=kS S (LB (ev x F l)) d r l s f h n F Q:=bD rfl
@[go_sem ↓] theorem adA {o:Nat} {x:MO}:jm P Y S (.fa o x) d r l s f h n F Q=kS S (XZ o (ev x F l)) d r l s f h n F Q:=bD rfl
@[go_sem ↓] theorem abr {w:Option Nat} {o:Nat} {x:MO}:jm P Y S (.Wy w o x) d r l s f h n F Q=kS S (LC w o (ev x F l)) d r l s f h n F Q:=bD rfl
@[go_sem ↓] theorem abt {ty:TypeId} {x:MO}:jm P Y S (.Wx ty x) d r l s f h n F Q=kS S ((ev x F l).map (.zT ty)) d r l s f h n F Q:=bD rfl
@[go_sem ↓] theorem abu {q:FuncId} {cs:List MO}:jm P Y S (.z8 q cs) d r l s f h n F Q=kS S ((evs cs F l).map (.f q)) d r l s f h n F Q:=bD rfl
@[go_sem ↓] theorem abv {x:MO} {i:Nat}:jm P Y S (.ext x i) d r l s f h n F Q=kS S (LG i (ev x F l)) d r l s f h n F Q:=bD rfl
@[go_sem ↓] theorem Ym {x:MO}:jm P Y S (.Jc x) d r l s f h n F Q=kS S (X3 (ev x F l)) d r l s f h n F Q:=bD rfl
@[go_sem ↓] theorem abw {x:MO}:jm P Y S (.neg x) d r l s f h n F Q=kS S (X6 (ev x F l)) d r l s f h n F Q:=bD rfl
@[go_sem ↓] theorem abx {x:MO} {k:IntKind}:jm P Y S (.Di k x) d r l s f h n F Q=kS S (X8 k (ev x F l)) d r l s f h n F Q:=bD rfl
@[go_sem ↓] theorem aby {x:MO}:jm P Y S (.Ww x) d r l s f h n F Q=kS S (X9 (ev x F l)) d r l s f h n F Q:=bD rfl
@[go_sem ↓] theorem abz {x:MO}:jm P Y S (.gN x) d r l s f h n F Q=kS S (EW (ev x F l)) d r l s f h n F Q:=bD rfl
@[go_sem ↓] theorem abA {w:Nat} {x:MO} {lo hi:Option MO}:jm P Y S (.TY w x lo hi) d r l s f h n F Q=kS S (X_ w (ev x F l) (zo lo F l) (zo hi F l)) d r l s f h n F Q:=bD rfl
@[go_sem ↓] theorem abB {x:MO} {lo hi:Option MO}:jm P Y S (.RV x lo hi) d r l s f h n F Q=kS S (Ya (ev x F l) (zo lo F l) (zo hi F l)) d r l s f h n F Q:=bD rfl
@[go_sem ↓] theorem Yn {x:MO}:jm P Y S (.Je x) d r l s f h n F Q=kS S (lmO h (ev x F l)) d r l s f h n F Q:=bD rfl
@[go_sem ↓] theorem Yo {kt:TypeId} {z:Option AV} {x k:MO} {ok:Bool}:jm P Y S (.look kt z x k ok) d r l s f h n F Q=kS S (WC P kt z ok h (ev x F l) (ev k F l)) d r l s f h n F Q:=bD rfl
@[go_sem ↓] theorem abC {w m:Nat} {x k:MO}:jm P Y S (.ER w m x k) d r l s f h n F Q=kS S (LH w m (ev x F l) (ev k F l)) d r l s f h n F Q:=bD rfl
@[go_sem ↓] theorem abD {x k:MO}:jm P Y S (.z_ x k) d r l s f h n F Q=kS S (LJ (ev x F l) (ev k F l)) d r l s f h n F Q:=bD rfl
@[go_sem ↓] theorem abE {lw:Option Nat} {w m:Nat} {x k:MO}:jm P Y S (.XU lw w m x k) d r l s f h n F Q=kS S (Ud lw w m (ev x F l) (ev k F l)) d r l s f h n F Q:=bD rfl
@[go_sem ↓] theorem abF {w m:Nat} {x:MO} {lo hi:Option MO}:jm P Y S (.Lj w m x lo hi) d r l s f h n F Q=kS S (Ji w m (ev x F l) (zo lo F l) (zo hi F l)) d r l s f h n F Q:=bD rfl
@[go_sem ↓] theorem Yp {m:Nat} {x:MO}:jm P Y S (.Ll m x) d r l s f h n F Q=kS S ((ev x F l).map λ_=>.i .i64 (m:Nat)) d r l s f h n F Q:=bD rfl
@[go_sem ↓] theorem adB {x y:MO}:jm P Y S (.mx x y) d r l s f h n F Q=kS S (Yb (ev x F l) (ev y F l)) d r l s f h n F Q:=bD rfl
@[go_sem ↓] theorem adC {x y:MO}:jm P Y S (.mn x y) d r l s f h n F Q=kS S (Yc (ev x F l) (ev y F l)) d r l s f h n F Q:=bD rfl
@[go_sem ↓] theorem abG {x:MO}:jm P Y S (.Jb x) d r l s f h n F Q=kS S (Uc h (ev x F l)) d r l s f h n F Q:=bD rfl
@[go_sem ↓] theorem abH {e w:Nat} {x y:MO}:jm P Y S (.app e w x y) d r l s f h n F Q=kR S (PY e w h n (ev x F l) (ev y F l)) d r l s f F Q:=bD rfl
@[go_sem ↓] theorem abI {w:Nat} {x y:MO}:jm P Y S (.PO w x y) d r l s f h n F Q=kR S (Uf w h n (ev x F l) (ev y F l)) d r l s f F Q:=bD rfl
@[go_sem ↓] theorem abJ {kt:TypeId} {m k x:MO}:jm P Y S (.upd kt m k x) d r l s f h n F Q=kR S (Ug P kt h n (ev m F l) (ev k F l) (ev x F l)) d r l s f F Q:=bD rfl
@[go_sem ↓] theorem abK {e:TypeId} {z:List AV} {x y:MO}:jm P Y S (.Bu e z x y) d r l s f h n F Q=kR S (Ye e z h n (ev x F l) (ev y F l)) d r l s f F Q:=bD rfl
@[go_sem] theorem adD {v:AV} {h':AH} {n':Nat}:kR S (some (.ok v h' n')) d r l s f F Q=mI S d v r l s f h' n' F Q:=bD rfl
@[go_sem] theorem Yq {e w:Nat} {x y:AV}:PY e w h n (some x) (some y)=some ((jh e w).run h n x y):=rfl
@[go_sem] theorem ahn {w:Nat} {x y:AV}:Uf w h n (some x) (some y)=some (qO w h n x y):=rfl
@[go_sem] theorem aho {kt:TypeId} {m k x:AV}:Ug P kt h n (some m) (some k) (some x)=some (CB (qM P 30 kt) (xG P 30 kt) h n m k x):=rfl
@[go_sem] theorem ahp {k:IntKind} {v:Int}:X6 (some (.i k v))=some (.i k (gF k (0 - v))):=rfl
@[go_sem] theorem ahq {k j:IntKind} {v:Int}:X8 k (some (.i j v))=some (.i k (gF k v)):=rfl
@[go_sem] theorem ahr {c:List UInt8}:X9 (some (.s c))=some (.s c):=rfl
@[go_sem] theorem adE {b o:Nat}:EW (some (.p b o))=some (.p b o):=rfl
@[go_sem] theorem adF {q:FuncId} {c:List AV}:EW (some (.f q c))=some (.f q c):=rfl
@[go_sem] theorem adG {q:Nat}:EW (some (.y q))=some (.y q):=rfl
@[go_sem] theorem ahs:zo none F l=some none:=rfl
def evj(a:Option AV):Option (Option Int):=match a with|some (.i _ n)=>some (some n)|_=>none
@[go_sem] theorem ahu {k:IntKind} {v:Int}:evj (some (.i k v))=some (some v):=rfl
@[go_sem] theorem ahv {x:MO}:zo (some x) F l=evj (ev x F l):=rfl
@[go_sem] theorem ahw {kt:TypeId} {z:Option AV} {ok:Bool} {x k:AV}:WC P kt z ok h (some x) (some k)=lookO (qM P 30 kt) (xG P 30 kt) z ok h x k:=rfl
@[go_sem ↓] theorem Yr {x:MO}:jm P Y S (.aW x) d r l s f h n F Q=kS S (Jg (ev x F l)) d r l s f h n F Q:=bD rfl
@[go_sem] theorem ahx {id:Nat}:Ue .bV id= .bV:=rfl
@[go_sem] theorem ahy {id:Nat}:Ue .ret id= .ret:=rfl
@[go_sem] theorem ahz {j id:Nat}:Ue (.exit j) id=if j=id then .bV else .exit j:=rfl
@[go_sem] theorem ahA {rs:List MS} {Q:AV->AH->Nat->Prop}:R9 rs Q .ret h n F=Ui (rsE rs F h) h n Q:=bD rfl
@[go_sem] theorem ahB {rs:List MS} {Q:AV->AH->Nat->Prop}:R9 rs Q .bV h n F=Ui (rsE rs F h) h n Q:=bD rfl
@[go_sem] theorem ahC {c:List AV} {Q:AV->AH->Nat->Prop}:Ui (some c) h n Q=Q (Yg c) h n:=bD rfl
@[go_sem] theorem ahD {a:AV}:Yg [a]=a:=rfl
@[go_sem] theorem ahE:Yg []= .bS []:=rfl
@[go_sem] theorem ahF {a b:AV} {c:List AV}:Yg (a::b::c)= .bS (a::b::c):=rfl
theorem Aa{I:Nat->AH->Nat->Fm->Prop}{i:Nat}:WI P Y g I i s f Q .bV h n F=∃j G,j<i/\I j h n G/\∀m v,lk G m=some v->lk F m=some v:=rfl
@[go_sem ↓] theorem ahG {I:Nat->AH->Nat->Fm->Prop} {i j:Nat}:WI P Y g I i s f Q (.exit j) h n F=sK P Y g 100000 s (.exit j) f h n F Q:=bD rfl
@[go_sem ↓] theorem ahH {I:Nat->AH->Nat->Fm->Prop} {i:Nat}:WI P Y g I i s f Q .ret h n F=sK P Y g 100000 s .ret f h n F Q:=bD rfl
end
section
variable {h:AH} {w:Option Nat}
@[go_sem] theorem abM {a b:Option AV}:vZ (some (.b true)) a b=a:=rfl
@[go_sem] theorem abN {a b:Option AV}:vZ (some (.b false)) a b=b:=rfl
@[go_sem] theorem ahI {x k:Nat}:R4 h (some (.p x k)) w=rR (h.get x) k w:=rfl
@[go_sem] theorem ahJ {P:Program} {op:BinOp} {ty:TypeId} {a b:AV}:Yd P op ty (some a) (some b)=(d_ P ty op).run a b:=rfl
@[go_sem] theorem adH {b:Bool}:LB (some (.b b))=some (.b (!b)):=rfl
@[go_sem] theorem ahK {o b k:Nat}:XZ o (some (.p b k))=some (.p b (k+o)):=rfl
@[go_sem] theorem adI {o:Nat} {c:List AV}:LC w o (some (.agg c))=KD w c o:=rfl
@[go_sem] theorem ahL {c:List UInt8}:X3 (some (.s c))=some (.i .i64 (c.length:Nat)):=rfl
theorem Ab{v:AV}{m:Nat}(e:PX v=some m):Jg (some v)=some (.i .i64 (m:Nat)):=by unfold Jg;dsimp only;rw[e]
@[go_sem] theorem ahM {w:Nat} {v:AV}:Jh w (some v)=(match qE v with|some c=>if c.length=w then some c else none|none=>none):=rfl
@[go_sem] theorem Yt {t:TypeId} {l u:List AV} {o:Nat}:fC (some (.row t l)) o (some u)=(nV u o l).map (.row t):=by
 show(match nV u o l with|some m=>some (AO.row t m)|none=>none)=_;cases nV u o l<;>rfl
end
def nv:List AV->Nat->Option AV
 |[],_=>none
 |a::_,0=>some a
 |_::l,k+1=>nv l k
theorem qU:∀(l:List AV)(k:Nat),nv l k=l[k]?
 |[],k=>by simp[nv]
 |a::l,0=>rfl
 |a::l,k+1=>by simp[nv,qU l k]
@[go_sem] theorem akw {a:AV} {l:List AV}:nv (a::l) 0=some a:=rfl
@[go_sem] theorem akx {a:AV} {l:List AV} {k:Nat}:nv (a::l) (k+1)=nv l k:=rfl
@[go_sem] theorem adJ {k:Nat} {c:List AV}:LG k (some (.bS c))=nv c k:=(qU c k).symm
@[go_sem] theorem aky {k:Nat} {F:Fm} {l:List AV}:ev (.s k) F l=lk F k:=rfl
@[go_sem] theorem akz {k:Nat} {F:Fm} {l:List AV}:ev (.v k) F l=nv l k:=(qU l k).symm
@[go_sem] theorem akA {a:AV} {F:Fm} {l:List AV}:ev (.c a) F l=some a:=rfl
@[go_sem] theorem abO {F:Fm} {l:List AV}:evs [] F l=some []:=rfl
def BK(a:Option AV)(b:Option (List AV)):Option (List AV):=match a,b with|some a,some b=>some (a::b)|_,_=>none
@[go_sem] theorem adK {a:AV} {b:List AV}:BK (some a) (some b)=some (a::b):=rfl
@[go_sem] theorem Yu {x:MO} {r:List MO} {F:Fm} {l:List AV}:evs (x::r) F l=BK (ev x F l) (evs r F l):=by
 rw[evs];unfold BK;cases ev x F l with
 |none=>rfl
 |some a=>cases evs r F l<;>rfl
@[go_sem] theorem abP {F:Fm} {h:AH}:rsE [] F h=some []:=rfl
@[go_sem] theorem Yv {r:MS} {l:List MS} {F:Fm} {h:AH}:rsE (r::l) F h=BK (EY r F h) (rsE l F h):=by
 rw[rsE];unfold BK;cases EY r F h with
 |none=>rfl
 |some a=>cases rsE l F h<;>rfl
@[go_sem] theorem adL {k:Nat} {F:Fm} {h:AH}:EY (.t k) F h=lk F k:=rfl
@[go_sem] theorem adM {k:Nat} {w:Option Nat} {F:Fm} {h:AH}:EY (.c k w) F h=R4 h (lk F k) w:=rfl
@[go_sem] theorem adN {k:Nat}:lk [] k=none:=rfl
@[go_sem] theorem Qc {j k:Nat} {v:AV} {r:Fm}:lk ((j,v)::r) k=if k=j then some v else lk r k:=rfl
@[go_sem] theorem adO {k:Nat} {v:AV}:pt [] k v=[(k,v)]:=rfl
@[go_sem] theorem abQ {j k:Nat} {u v:AV} {r:Fm}:pt ((j,u)::r) k v=if k=j then(k,v)::r else(j,u)::pt r k v:=rfl
@[go_sem] theorem adP {k:Nat} {bs:List Bool} {v:AV} {l:List AV}:wQ k (true::bs) (v::l)=(k,v)::wQ (k+1) bs l:=rfl
@[go_sem] theorem adQ {k:Nat} {bs:List Bool} {v:AV} {l:List AV}:wQ k (false::bs) (v::l)=wQ (k+1) bs l:=rfl
@[go_sem] theorem adR {k:Nat}:wQ k [] []=[]:=rfl
theorem aP{F:Fm}:∀m v,lk [] m=some v->lk F m=some v:=λ_ _ e=>by cases e
theorem aN{F:Fm}{k:Nat}{u:AV}{r:Fm}(h:lk F k=some u)(q:∀m v,lk r m=some v->lk F m=some v):∀m v,lk ((k,u)::r) m=some v->lk F m=some v:=λm v e=>by
 rw[Qc]at e;split at e
 .cases e;subst_vars;exact h
 .exact q m v e
@[go_sem] theorem ahN {k:IntKind} {n:Int}:qE (.i k n)=some [.i k n]:=rfl
@[go_sem] theorem ahO {b:Bool}:qE (.b b)=some [.b b]:=rfl
@[go_sem] theorem ahP {b:List UInt8}:qE (.s b)=some [.s b]:=rfl
@[go_sem] theorem ahQ {b o:Nat}:qE (.p b o)=some [.p b o]:=rfl
@[go_sem] theorem adS {b l o n:Nat} {c:Option Nat}:qE (.sl b l o n c)=some [.sl b l o n c]:=rfl
@[go_sem] theorem ahR {b:Nat}:qE (.m b)=some [.m b]:=rfl
@[go_sem] theorem ahS {g:FuncId} {c:List AV}:qE (.f g c)=some [.f g c]:=rfl
@[go_sem] theorem ahT {b:Nat}:qE (.y b)=some [.y b]:=rfl
@[go_sem] theorem ahU {c:Nat}:qE (.k c)=some [.k c]:=rfl
@[go_sem] theorem adT {a:Addr} {c:Nat}:qE (.es a c)=some [.es a c]:=rfl
@[go_sem] theorem abR {c:List AV}:qE (.agg c)=some c:=rfl
theorem SR.cl{h:AH}{n w:Nat}{v:AV}{len:Nat}{cells:List AV}(s:SR h n w v len cells):qE v=some [v]:=by
 rcases s with⟨rfl,rfl,_⟩|⟨x,lo,o,c,rfl,_⟩|⟨a,c,rfl,_⟩<;>rfl
def tk:Nat->List AV->Option (List AV)
 |0,_=>some []
 |_+1,[]=>none
 |k+1,a::l=>BK (some a) (tk k l)
theorem R_:∀(k:Nat)(l:List AV),tk k l=if k<=l.length then some (l.take k)else none
 |0,l=>by simp[tk]
 |k+1,[]=>by simp[tk]
 |k+1,a::l=>by
  rw[tk,R_ k l];by_cases h:k<=l.length
  .rw[if_pos h,if_pos (by simpa using h)];rfl
  .rw[if_neg h,if_neg (by simpa using h)];rfl
def Qd:Nat->Nat->List AV->Option (List AV)
 |0,k,l=>tk k l
 |_+1,_,[]=>none
 |o+1,k,_::l=>Qd o k l
theorem LY:∀(o k:Nat)(l:List AV),0<k->Qd o k l=if o+k<=l.length then some ((l.drop o).take k)else none
 |0,k,l,_=>by rw[Qd,R_];simp
 |o+1,k,[],h=>by rw[Qd,if_neg (by simp)]
 |o+1,k,a::l,h=>by
  rw[Qd,LY o k l h];simp only[List.length_cons,List.drop_succ_cons,show o+1+k<=l.length+1↔o+k<=l.length by omega]
@[go_sem] theorem akB {l:List AV}:tk 0 l=some []:=by cases l<;>rfl
@[go_sem] theorem akC {a:AV} {l:List AV} {k:Nat}:tk (k+1) (a::l)=BK (some a) (tk k l):=rfl
@[go_sem] theorem ahV {l:List AV} {k:Nat}:Qd 0 k l=tk k l:=by cases l<;>rfl
@[go_sem] theorem ahW {a:AV} {l:List AV} {o k:Nat}:Qd (o+1) k (a::l)=Qd o k l:=rfl
@[go_sem] theorem Yw {t:TypeId} {l:List AV} {o:Nat}:rR (some (.row t l)) o none=nv l o:=(qU l o).symm
@[go_sem] theorem ahX {t:TypeId} {l:List AV} {o k:Nat}:rR (some (.row t l)) o (some (k+1))=(Qd o (k+1) l).map .agg:=by
 rw[LY _ _ _ (by omega)];show(if o+(k+1)<=l.length then some (AV.agg ((l.drop o).take (k+1)))else none)=_;split<;>rfl
@[go_sem] theorem ahY {l:List AV} {o:Nat}:KD none l o=nv l o:=by rw[qU];exact mP o l
attribute [go_sem] Option.map_some
def st1:Nat->AV->List AV->Option (List AV)
 |_,_,[]=>none
 |0,v,_::l=>some (v::l)
 |o+1,v,a::l=>BK (some a) (st1 o v l)
theorem rT:∀(o:Nat)(v:AV)(l:List AV),st1 o v l=nV [v] o l
 |o,v,[]=>by simp[st1,nV]
 |0,v,a::l=>by simp[st1,nV]
 |o+1,v,a::l=>by
  rw[st1,rT o v l];unfold nV;by_cases h:o+1<=l.length
  .simp[h,BK,show o+1+1<=l.length+1 by omega]
  .simp[h,BK]
@[go_sem] theorem ahZ {o:Nat} {v:AV} {l:List AV}:nV [v] o l=st1 o v l:=(rT o v l).symm
@[go_sem] theorem ah0 {v a:AV} {l:List AV}:st1 0 v (a::l)=some (v::l):=rfl
@[go_sem] theorem ah1 {v a:AV} {l:List AV} {o:Nat}:st1 (o+1) v (a::l)=BK (some a) (st1 o v l):=rfl
theorem Yx{u l:List AV}(h:u.length=l.length):nV u 0 l=some u:=by
 unfold nV;rw[if_pos (by omega)];simp[h]
def Qe:List AV->List AV->Option (List AV)
 |[],l=>some l
 |_::_,[]=>none
 |a::u,_::l=>BK (some a) (Qe u l)
theorem LZ:∀(u l:List AV),Qe u l=nV u 0 l
 |[],l=>by simp[Qe,nV]
 |a::u,[]=>by simp[Qe,nV]
 |a::u,c::l=>by
  rw[Qe,LZ u l];unfold nV;by_cases h:u.length<=l.length
  .simp[h,BK]
  .simp[h,BK]
@[go_sem] theorem ah2 {l:List AV}:Qe [] l=some l:=by cases l<;>rfl
@[go_sem] theorem ah3 {a c:AV} {u l:List AV}:Qe (a::u) (c::l)=BK (some a) (Qe u l):=rfl
@[go_sem] theorem adU {a b c:AV} {u l:List AV}:nV (a::b::u) 0 (c::l)=Qe (a::b::u) (c::l):=(LZ _ _).symm
@[go_sem] theorem adV {a b c:AV} {u l:List AV} {o:Nat}:nV (a::b::u) (o+1) (c::l)=BK (some c) (nV (a::b::u) o l):=by
 unfold nV;by_cases h:o+(a::b::u).length<=l.length
 .rw[if_pos h,if_pos (by simp at h⊢;omega)]
  simp[BK,show o+1+(u.length+1+1)=o+(u.length+1+1)+1 by omega]
 .rw[if_neg h,if_neg (by simp at h⊢;omega)];rfl
attribute [go_sem] List.length_cons List.length_nil
@[go_sem] theorem tL {t:AH} {n:Nat} {v:AO}:(t.set n v).get n=some v:=aG
@[go_sem] theorem WK {t:AH} {n m:Nat} {v:AO} (h:m≠n):(t.set n v).get m=t.get m:=ay h
section
variable {P:Program} {ty:TypeId} {a b:Int}
@[go_sem] theorem Qf:(d_ P ty .lss).run (.i .i64 a) (.i .i64 b)=some (.b (decide (a<b))):=by
 show bc true (some (AV.b (pV (kM b a)))) none=_;rw[bF,jc,eX];congr 2;by_cases h:a<b<;>simp[h]<;>omega
@[go_sem] theorem abS:(d_ P ty .leq).run (.i .i64 a) (.i .i64 b)=some (.b (decide (a<=b))):=by
 show bc true (some (AV.b (kM a b))) none=_;rw[bF,eX]
@[go_sem] theorem abT:(d_ P ty .gtr).run (.i .i64 a) (.i .i64 b)=some (.b (decide (b<a))):=by
 show bc true (some (AV.b (pV (kM a b)))) none=_;rw[bF,jc,eX];congr 2;by_cases h:b<a<;>simp[h]<;>omega
@[go_sem] theorem abU:(d_ P ty .geq).run (.i .i64 a) (.i .i64 b)=some (.b (decide (b<=a))):=by
 show bc true (some (AV.b (kM b a))) none=_;rw[bF,eX]
@[go_sem] theorem abW:(d_ P ty .eql).run (.i .i64 a) (.i .i64 b)=some (.b (decide (a=b))):=by
 show bc true (some (AV.b (fJ a b))) none=_;rw[bF,cO]
@[go_sem] theorem abX:(d_ P ty .neq).run (.i .i64 a) (.i .i64 b)=some (.b (!decide (a=b))):=by
 show bc true (some (AV.b (pV (fJ a b)))) none=_;rw[bF,jc,cO]
@[go_sem] theorem Qg:(d_ P ty .add).run (.i .i64 a) (.i .i64 b)=some (.i .i64 (gF .i64 (a+b))):=rfl
@[go_sem] theorem abY:(d_ P ty .sub).run (.i .i64 a) (.i .i64 b)=some (.i .i64 (gF .i64 (a - b))):=rfl
@[go_sem] theorem abZ:(d_ P ty .mul).run (.i .i64 a) (.i .i64 b)=some (.i .i64 (gF .i64 (a*b))):=rfl
theorem dM{x:Int}(h1: -9223372036854775808<=x)(h2:x<=9223372036854775807):gF .i64 x=x:=by
 unfold gF;rw[eX,eX,show IntKind.i64.min= -9223372036854775808 from by decide,show IntKind.i64.max=9223372036854775807 from by decide];simp[h1,h2,bc]
end
end
section
mutual
theorem xZ:∀(a:AV),IK a a=true
 | .b x=>by cases x<;>rfl
 | .i k n=>by
  show bc (wJ k k) (fJ n n) false=true;rw[cO,show wJ k k=true from decide_eq_true rfl];simp[bc]
 | .s l=>by show qF l l=true;rw[iQ];simp
 | .p x o=>by show bc (Nat.beq x x) (Nat.beq o o) false=true;rw[Nat.beq_refl,Nat.beq_refl];rfl
 | .sl x l o n none=>by show bc (Nat.beq x x) (bc (Nat.beq l l) (bc (Nat.beq o o) (Nat.beq n n) false) false) false=true;rw[Nat.beq_refl,Nat.beq_refl,Nat.beq_refl,Nat.beq_refl];rfl
 | .sl x l o n (some c)=>by show bc (Nat.beq x x) (bc (Nat.beq l l) (bc (Nat.beq o o) (bc (Nat.beq n n) (Nat.beq c c) false) false) false) false=true;rw[Nat.beq_refl,Nat.beq_refl,Nat.beq_refl,Nat.beq_refl,Nat.beq_refl];rfl
 | .m x=>Nat.beq_refl x
 | .f g l=>by show bc (Nat.beq g g) (uT l l) false=true;rw[Nat.beq_refl,qj l];rfl
 | .y x=>Nat.beq_refl x
 | .zT t v=>by show bc (Nat.beq t t) (IK v v) false=true;rw[Nat.beq_refl,xZ v];rfl
 | .agg l=>qj l
 | .bS l=>qj l
 | .es a c=>by show bc (decide (a=a)) (Nat.beq c c) false=true;rw[decide_eq_true rfl,Nat.beq_refl];rfl
 | .k c=>Nat.beq_refl c
theorem qj:∀(l:List AV),uT l l=true
 |[]=>rfl
 |a::l=>by show bc (IK a a) (uT l l) false=true;rw[xZ a,qj l];rfl
end
def HV(i:Nat):List Nat->List AV->Option (List AV)
 |[],_=>some []
 |k::ks,vs=>BK (nv vs (i - 1 - k)) (HV i ks vs)
theorem yc{i:Nat}:∀{ks:List Nat}{vs l:List AV},HV i ks vs=some l->(KW i ks).run vs=some l
 |[],vs,l,e=>e
 |k::ks,vs,l,e=>by
  rw[HV]at e;cases h1:nv vs (i - 1 - k)with
  |none=>rw[h1]at e;cases e
  |some a=>
   cases h2:HV i ks vs with
   |none=>rw[h1,h2]at e;cases e
   |some b=>
    rw[h1,h2]at e;cases e
    show bnd ((Cz (i - 1 - k)).run vs) _=_;rw[ji,<-qU,h1];show bnd ((KW i ks).run vs) _=_;rw[yc h2];rfl
def fQ(w:Nat)(a k:Option AV):Option AV:=match a,k with
 |some (.sl b _ o m _),some (.i _ k)=>if 0<=k/\k<(m:Nat)then some (.p b (o+k.toNat*w))else none
 |_,_=>none
section
variable (P:Program) (Y:YT)
noncomputable def qI (i:MI)(h:AH)(F:Fm)(l:List AV):Option AV:=match i with
 | .bJ w x ix=>fQ w (ev x F l) (ev ix F l)
 |i=>pv P i h F l
theorem L6{i:MI}{f:FT}{h:AH}{n:Nat}{F:Fm}{l:List AV}{t:Tr AV}{v:AV}(e:qI P i h F l=some v)(hF:Fk t F):i.run P Y f t l h n= .ok v h n:=by
 unfold qI at e;split at e
 .unfold fQ at e
  split at e
  .rename_i hx hk
   split at e
   .rename_i hr
    cases e
    obtain⟨k',rfl⟩:=Int.eq_ofNat_of_zero_le hr.1;simp only[MI.run,bf hF hx,bf hF hk];rename_i m _ _ _ _ _;show ok1 (bc (Nat.ble (Nat.succ k') _) _ none) h n=_;rw[Nat.ble_eq_true_of_le (by have:=hr.2;omega),bF];rfl
   .cases e
  .cases e
 .exact R7 P Y e hF
def Uq(g:Option Bool)(v:Option AV):Option AV:=match g with
 |some true=>v
 |some false=>some (.bS [])
 |none=>none
noncomputable def Jl (i:Nat)(o:MQ)(h:AH)(F:Fm)(vs:List AV):Option AV:=match HV i o.ks vs with
 |some l=>Uq (gO o.g F l) (qI P o.i h F l)
 |none=>none
noncomputable def msA (e:TypeId)(z:List AV)(x:Nat)(a c:Option AV):Option (AV×AO):=match a,c with
 |some (.i _ (.ofNat a)),some (.i _ (.ofNat c))=>if a<=c/\c<=1048576 then some (.sl x 0 0 a (some c),.row e (rep c z))else none
 |_,_=>none
noncomputable def Qh (i:MI)(x:Nat)(F:Fm)(l:List AV):Option (AV×AO):=match i with
 | .al e z=>some (.p x 0,.row e z)
 | .box e w a=>(Jh w (ev a F l)).map λc=>(.p x 0,.row e c)
 | .rP e len z fs=>(colE fs F l z).map λc=>(.sl x 0 0 len (some len),.row e c)
 | .Ht=>some (.m x,.mp [] 0)
 | .Bu e z a c=>msA e z x (ev a F l) (ev c F l)
 |_=>none
structure DE where
 g:FuncId
 S:SK
 all:List MQ
 ck:List (Nat×Nat)
 wr:List (Nat×Tmp)
 s:List It
 Q:PQ
abbrev DK:=List MQ->Nat->Nat->Nat->FT->AH->Nat->List AV->List (Nat×AH)->Fm->Prop
def Fa(p:Nat):List (Nat×AH)->Option AH
 |[]=>none
 |x::l=>if x.1=p then some x.2 else Fa p l
def nq:List MQ->Nat->Option MQ
 |[],_=>none
 |a::_,0=>some a
 |_::l,k+1=>nq l k
noncomputable def Qi (N:Nat)(F:Fm)(vs:List AV)(o:Option MQ)(H:Option AH)(v:Option AV):Prop:=match o,H,v with
 |some o,some H,some v=>o.k=1/\Jl P N o H F vs=some v
 |_,_,_=>False
noncomputable def Qj (all:List MQ)(F:Fm)(vs:List AV)(hs:List (Nat×AH)):List (Nat×Nat)->Prop
 |[]=>True
 |x::l=>Qi P all.length F vs (nq all x.1) (Fa x.2 hs) (nv vs (all.length - 1 - x.1))/\Qj all F vs hs l
def wr1(F:Fm)(k:Nat)(v:Option AV):Option Fm:=match v with
 |some v=>some (pt F k v)
 |none=>none
def Jm(i:Nat):List (Nat×Tmp)->List AV->Option Fm->Option Fm
 |[],_,F=>F
 |x::l,vs,F=>match F with
  |some F=>Jm i l vs (wr1 F x.2 (nv vs (i - 1 - x.1)))
  |none=>none
def dW(E:DE)(F:Option Fm)(f:FT)(h:AH)(n:Nat):Prop:=match F with
 |some F=>E.S E.s .bV f h n F E.Q
 |none=>False
def dV(D:DK)(v:Option AV)(l:List MQ)(j r n0:Nat)(f:FT)(h:AH)(n:Nat)(vs:List AV)(hs:List (Nat×AH))(F:Fm):Prop:=match v with
 |some v=>D l (j+1) r n0 f h n (v::vs) hs F
 |none=>False
noncomputable def dA (D:DK)(b:Option Bool)(v:Option (AV×AO))(l:List MQ)(j r n0:Nat)(f:FT)(h:AH)(n:Nat)(vs:List AV)(hs:List (Nat×AH))(F:Fm):Prop:=match b,v with
 |some true,some v=>D l (j+1) (r+1) n0 f (h.set (n0+r) v.2) n (v.1::vs) hs F
 |some false,_=>D l (j+1) (r+1) n0 f h n (.bS []::vs) hs F
 |_,_=>False
noncomputable def dH (D:DK)(b:Nat)(a:Option AO)(l:List MQ)(j r n0:Nat)(f:FT)(h:AH)(n:Nat)(vs:List AV)(hs:List (Nat×AH))(F:Fm):Prop:=match a with
 |some a=>D l (j+1) r n0 f (h.set b a) n (.bS []::vs) ((j+1,h.set b a)::hs) F
 |none=>False
noncomputable def dT (D:DK)(a:Option AV)(u:Option (List AV))(l:List MQ)(j r n0:Nat)(f:FT)(h:AH)(n:Nat)(vs:List AV)(hs:List (Nat×AH))(F:Fm):Prop:=match a with
 |some (.p b o)=>dH D b (fC (h.get b) o u) l j r n0 f h n vs hs F
 |_=>False
def dF(D:DK)(g:Option AV)(c:Option (List AV))(l:List MQ)(j r n0:Nat)(f:FT)(h:AH)(n:Nat)(vs:List AV)(hs:List (Nat×AH))(F:Fm):Prop:=match g,c with
 |some (.f g cap),some c=>CW f g (c++cap) h n λv h n=>D l (j+1) r n0 f h n (v::vs) ((j+1,h)::hs) F
 |some (.y q),some c=>RW (Y q c f h n) λv h n=>D l (j+1) r n0 f h n (v::vs) ((j+1,h)::hs) F
 |_,_=>False
def dR(D:DK)(o:Option fq)(l:List MQ)(j r n0:Nat)(f:FT)(vs:List AV)(hs:List (Nat×AH))(F:Fm):Prop:=match o with
 |some (.ok v h n)=>D l (j+1) r n0 f h n (v::vs) ((j+1,h)::hs) F
 |_=>False
noncomputable def dX (D:DK)(i:MI)(u:List AV)(l:List MQ)(j r n0:Nat)(f:FT)(h:AH)(n:Nat)(vs:List AV)(hs:List (Nat×AH))(F:Fm):Prop:=match i with
 | .st w a x=>dT D (ev a F u) (Jh w (ev x F u)) l j r n0 f h n vs hs F
 | .call g cs=>dF Y D (ev g F u) (evs cs F u) l j r n0 f h n vs hs F
 | .app e w x y=>dR D (PY e w h n (ev x F u) (ev y F u)) l j r n0 f vs hs F
 | .PO w x y=>dR D (Uf w h n (ev x F u) (ev y F u)) l j r n0 f vs hs F
 | .upd kt m k x=>dR D (Ug P kt h n (ev m F u) (ev k F u) (ev x F u)) l j r n0 f vs hs F
 |i=>∀t,Fk t F->RW (i.run P Y f t u h n) λv h n=>D l (j+1) r n0 f h n (v::vs) ((j+1,h)::hs) F
noncomputable def dG (D:DK)(b:Option Bool)(i:MI)(u:List AV)(l:List MQ)(j r n0:Nat)(f:FT)(h:AH)(n:Nat)(vs:List AV)(hs:List (Nat×AH))(F:Fm):Prop:=match b with
 |some true=>dX P Y D i u l j r n0 f h n vs hs F
 |some false=>D l (j+1) r n0 f h n (.bS []::vs) ((j+1,h)::hs) F
 |none=>False
noncomputable def d3 (D:DK)(u:Option (List AV))(o:MQ)(l:List MQ)(j r n0:Nat)(f:FT)(h:AH)(n:Nat)(vs:List AV)(hs:List (Nat×AH))(F:Fm):Prop:=match u with
 |some u=>dG P Y D (gO o.g F u) o.i u l j r n0 f h n vs hs F
 |none=>False
noncomputable def d2 (D:DK)(u:Option (List AV))(o:MQ)(l:List MQ)(j r n0:Nat)(f:FT)(h:AH)(n:Nat)(vs:List AV)(hs:List (Nat×AH))(F:Fm):Prop:=match u with
 |some u=>dA D (gO o.g F u) (Qh o.i (n0+r) F u) l j r n0 f h n vs hs F
 |none=>False
noncomputable def dK (E:DE):Nat->DK
 |0=>λ_ _ _ _ _ _ _ _ _ _=>False
 |k+1=>λl j r n0 f h n vs hs F=>match l with
  |[]=>Qj P E.all F vs hs E.ck/\dW E (Jm E.all.length E.wr vs (some F)) f h n
  |o::l=>match o.k with
   |3=>d3 P Y (dK E k) (HV j o.ks vs) o l j r n0 f h n vs hs F
   |2=>d2 (dK E k) (HV j o.ks vs) o l j r n0 f h n vs hs F
   |1=>(match o.r with
    |true=>dV (dK E k) (Jl P j o h F vs) l j r n0 f h n vs hs F
    |false=>(match hs with|[]=>False|x::_=>dV (dK E k) (Jl P j o x.2 F vs) l j r n0 f h n vs hs F))
   |0=>dV (dK E k) (Jl P j o .z F vs) l j r n0 f h n vs hs F
   |_=>False
section
variable {P Y} {f:FT} {F:Fm} {t:Tr AV}
theorem BL{i j:Nat}{o:MQ}{h:AH}{n:Nat}{vs:List AV}{v:AV}(hF:Fk t F)(hk:o.k=0\/o.k=1)(e:Jl P i o (if o.k=0 then .z else h) F vs=some v):kQ P Y i o f t j h n vs= .ok v h n:=by
 unfold Jl at e;split at e
 case h_2=>cases e
 rename_i l hl;unfold Uq at e;unfold kQ;rcases hk with hk|hk<;>rw[hk]<;>(try dsimp only)<;>rw[yc hl]
 .rw[hk,if_pos rfl]at e
  split at e
  .rename_i hg
   show Ef (Bz o.g t l) _ _=_;rw[qR hF hg];show O7 (o.i.run P Y f t l .z 0) _=_;rw[L6 P Y e hF];rfl
  .rename_i hg
   cases e
   show Ef (Bz o.g t l) _ _=_;rw[qR hF hg];rfl
  .cases e
 .rw[hk,if_neg (by decide)]at e
  split at e
  .rename_i hg
   show Ef (Bz o.g t l) _ _=_;rw[qR hF hg];show O7 (o.i.run P Y f t l h 0) _=_;rw[L6 P Y e hF];rfl
  .rename_i hg
   cases e
   show Ef (Bz o.g t l) _ _=_;rw[qR hF hg];rfl
  .cases e
theorem Ur{i:MI}{x:Nat}{l:List AV}{v:AV×AO}(hF:Fk t F)(e:Qh i x F l=some v):i.run P Y f t l .z x= .ok v.1 ((Tr.z:AH).set x v.2) (x+1):=by
 unfold Qh at e;split at e
 .cases e;rfl
 .obtain⟨c,h1,rfl⟩:=Option.map_eq_some_iff.1 e
  obtain⟨v,h2,h3,h4⟩:=Hy h1;simp only[MI.run,bf hF h2,aJ,h3,eO,h4,Nat.beq_refl,bF];rfl
 .obtain⟨c,h1,rfl⟩:=Option.map_eq_some_iff.1 e
  simp only[MI.run,w_ hF h1,aJ];rfl
 .cases e;rfl
 .unfold msA at e
  split at e
  .rename_i h1 h2
   split at e
   .rename_i h3
    cases e
    simp only[MI.run,bf hF h1,bf hF h2];rw[Nat.ble_eq_true_of_le h3.1,bF,Nat.ble_eq_true_of_le h3.2,bF];rfl
   .cases e
  .cases e
 .cases e
theorem Yy{D:DK}{i:MI}{u:List AV}{l:List MQ}{j r n0:Nat}{h:AH}{n:Nat}{vs:List AV}{hs:List (Nat×AH)}(hF:Fk t F)(e:dX P Y D i u l j r n0 f h n vs hs F):
 ∃v h' n',i.run P Y f t u h n= .ok v h' n'/\D l (j+1) r n0 f h' n' (v::vs) ((j+1,h')::hs) F:=by
 unfold dX at e;split at e
 .unfold dT at e
  split at e
  case h_2=>exact e.elim
  rename_i b o hb;unfold dH at e;split at e
  case h_2=>exact e.elim
  rename_i a ha;refine⟨_,_,_,?_,e⟩;unfold fC at ha;split at ha
  case h_2=>cases ha
  rename_i q1 q2 ty lo u h5 h6;split at ha
  case h_2=>cases ha
  cases ha
  obtain⟨v,h1,h2,h3⟩:=Hy h6;simp only[MI.run,bf hF hb,bf hF h1,aJ];unfold xH;dsimp only;rw[h5];dsimp only;rw[h2];show bc (Nat.beq (mG u) _) (aJ (uP u o lo) _) .bad=_;rw[eO,h3,Nat.beq_refl,bF,xY ‹_›];rfl
 .unfold dF at e
  split at e
  .rename_i h1 h2
   obtain⟨v,h',n',e1,e2⟩:=e;refine⟨v,h',n',?_,e2⟩;simp only[MI.run,bf hF h1,vk hF h2,aJ,iG,e1]
  .rename_i h1 h2
   obtain⟨v,h',n',e1,e2⟩:=e;refine⟨v,h',n',?_,e2⟩;simp only[MI.run,bf hF h1,vk hF h2,aJ,e1]
  .exact e.elim
 .unfold dR PY at e
  split at e
  case h_2=>exact e.elim
  rename_i ho;split at ho
  case h_2=>cases ho
  rename_i h1 h2;refine⟨_,_,_,?_,e⟩;simp only[MI.run,bf hF h1,bf hF h2,aJ];exact Option.some.inj ho
 .unfold dR Uf at e
  split at e
  case h_2=>exact e.elim
  rename_i ho;split at ho
  case h_2=>cases ho
  rename_i h1 h2;refine⟨_,_,_,?_,e⟩;simp only[MI.run,bf hF h1,bf hF h2,aJ];exact Option.some.inj ho
 .unfold dR Ug at e
  split at e
  case h_2=>exact e.elim
  rename_i ho;split at ho
  case h_2=>cases ho
  rename_i h1 h2 h3;refine⟨_,_,_,?_,e⟩;simp only[MI.run,bf hF h1,bf hF h2,bf hF h3,aJ];exact Option.some.inj ho
 .exact e t hF
theorem HY{p:Nat}:∀{hs:List (Nat×AH)},CO p hs=Fa p hs
 |[]=>rfl
 |(q,h)::hs=>by rw[Bo,Fa,HY]
theorem Sb:∀(l:List MQ)(k:Nat),nq l k=l[k]?
 |[],k=>by simp[nq]
 |a::l,0=>rfl
 |a::l,k+1=>by simp[nq,Sb l k]
theorem L8{all:List MQ}{vs:List AV}{hs:List (Nat×AH)}(hF:Fk t F):∀{ck:List (Nat×Nat)},Qj P all F vs hs ck->T_ P Y all ck f t vs hs=true
 |[],_=>rfl
 |x::l,e=>by
  obtain⟨e0,e⟩:=e;unfold Qi at e0;split at e0
  case h_2=>exact e0.elim
  rename_i o H v h1 h2 h3;obtain⟨h4,h5⟩:=e0;rw[Sb]at h1;rw[T_,L8 hF e,h1];dsimp only;rw[HY,h2,ji,<-qU,h3];dsimp only;have:kQ P Y all.length o f t 0 H 0 vs= .ok v H 0:=BL hF (.inr h4) (by rw[if_neg (by rw[h4];decide)];exact h5);rw[this];dsimp only;rw[xZ];rfl
theorem L9{i:Nat}{vs:List AV}:∀{wr:List (Nat×Tmp)}{G:Fm},Jm i wr vs none=some G->False
 |[],_,e=>by cases e
 |_::_,_,e=>by cases e
theorem L_{i:Nat}{vs:List AV}:∀{wr:List (Nat×Tmp)}{F G:Fm}{t:Tr AV},Jm i wr vs (some F)=some G->Fk t F->∃t',Jf i wr vs t=some t'/\Fk t' G
 |[],F,G,t,e,hF=>by cases e;exact⟨t,rfl,hF⟩
 |x::l,F,G,t,e,hF=>by
  rw[Jm]at e;cases hv:nv vs (i - 1 - x.1)with
  |none=>rw[hv]at e;exact(L9 (show Jm i l vs none=some G from e)).elim
  |some v=>
   rw[hv]at e;obtain⟨t',h1,h2⟩:=L_ (show Jm i l vs (some (pt F x.2 v))=some G from e) (hF.put x.2 v);refine⟨t',?_,h2⟩;show bnd ((Cz (i - 1 - x.1)).run vs) _=_;rw[ji,<-qU,hv];exact h1
theorem yg{E:DE}:∀(k:Nat){l:List MQ}{j r n0:Nat}{h:AH}{n:Nat}{vs:List AV}{hs:List (Nat×AH)},Fk t F->dK P Y E k l j r n0 f h n vs hs F->
 ∃h1 n1 vs1 hs1,vg P Y l j r f t n0 h n vs hs= .ok h1 n1 vs1 hs1/\Qj P E.all F vs1 hs1 E.ck/\dW E (Jm E.all.length E.wr vs1 (some F)) f h1 n1
 |0,l,j,r,n0,h,n,vs,hs,hF,e=>e.elim
 |k+1,[],j,r,n0,h,n,vs,hs,hF,e=>⟨_,_,_,_,rfl,e.1,e.2⟩
 |k+1,o::l,j,r,n0,h,n,vs,hs,hF,e=>by
  rw[vg.eq_def];dsimp only;rw[dK]at e;dsimp only at e;have val:∀{H:AH}{v:Option AV},(∀v,Jl P j o H F vs=some v->∃H' n',kQ P Y j o f t 0 H n vs= .ok v H' n')->dV (dK P Y E k) (Jl P j o H F vs) l j r n0 f h n vs hs F->
   ∃v H' n',kQ P Y j o f t 0 H n vs= .ok v H' n'/\∃h1 n1 vs1 hs1,vg P Y l (j+1) r f t n0 h n (v::vs) hs= .ok h1 n1 vs1 hs1/\Qj P E.all F vs1 hs1 E.ck/\dW E (Jm E.all.length E.wr vs1 (some F)) f h1 n1:=by
   intro H _ q e;unfold dV at e;split at e
   .obtain⟨H',n',q⟩:=q _ ‹_›
    exact⟨_,_,_,q,yg k hF e⟩
   .exact e.elim
  split at e
  .rename_i hk
   simp only[hk];unfold d3 at e;split at e
   case h_2=>exact e.elim
   rename_i u hu;unfold dG at e;have hd:∀x,kQ P Y j o f t x h n vs=Ef (Bz o.g t u) (o.i.run P Y f t u h n) (.ok (.bS []) h n):=λx=>by
    unfold kQ;rw[hk];try dsimp only
    rw[yc hu];rfl
   split at e
   .rename_i hg
    obtain⟨v,h',n',e1,e2⟩:=Yy hF e;rw[hd,qR hF hg,e1];exact yg k hF e2
   .rename_i hg
    rw[hd,qR hF hg];exact yg k hF e
   .exact e.elim
  .rename_i hk
   simp only[hk];unfold d2 at e;split at e
   case h_2=>exact e.elim
   rename_i u hu;unfold dA at e;split at e
   .rename_i v hg hv
    have:kQ P Y j o f t (Nat.add n0 r) h n vs= .ok v.1 (h.set (n0+r) v.2) n:=by
     unfold kQ;rw[hk];try dsimp only
     rw[yc hu];show Ef (Bz o.g t u) _ _=_;rw[qR hF hg];show O7 (o.i.run P Y f t u .z (n0+r)) _=_;rw[Ur hF hv];show bc (Nat.beq (n0+r+1) (Nat.succ (n0+r))) (aJ (((Tr.z:AH).set (n0+r) v.2).get (n0+r)) _) .bad=_;rw[Nat.beq_refl,aG];rfl
    rw[this];exact yg k hF e
   .rename_i hg
    have:kQ P Y j o f t (Nat.add n0 r) h n vs= .ok (.bS []) h n:=by
     unfold kQ;rw[hk];try dsimp only
     rw[yc hu];show Ef (Bz o.g t u) _ _=_;rw[qR hF hg];rfl
    rw[this];exact yg k hF e
   .exact e.elim
  .rename_i hk
   simp only[hk];split at e
   .rename_i hr
    simp only[hr];obtain⟨v,H',n',e1,e2⟩:=val (v:=none) (λv hv=>⟨_,_,BL hF (.inr hk) (by rw[if_neg (by rw[hk];decide)];exact hv)⟩) e;rw[e1];exact e2
   .rename_i hr
    simp only[hr];split at e
    .exact e.elim
    .rename_i x hs'
     obtain⟨v,H',n',e1,e2⟩:=val (v:=none) (λv hv=>⟨_,_,BL hF (.inr hk) (by rw[if_neg (by rw[hk];decide)];exact hv)⟩) e;dsimp only;rw[e1];exact e2
  .rename_i hk
   simp only[hk];have e1:∃v,Jl P j o .z F vs=some v/\dK P Y E k l (j+1) r n0 f h n (v::vs) hs F:=by
    unfold dV at e;split at e
    .exact⟨_,‹_›,e⟩
    .exact e.elim
   obtain⟨v,hv,e2⟩:=e1;have:kQ P Y j o f t 0 h n vs= .ok v h n:=BL hF (.inl hk) (by rw[if_pos hk];exact hv);rw[this];exact yg k hF e2
  .exact e.elim
theorem aj{g:FuncId}{K:Nat}{l:List MQ}{ck:List (Nat×Nat)}{wr:List (Nat×Tmp)}{s:List It}{h:AH}{n:Nat}{Q:PQ}(e:dK P Y ⟨g,sK P Y g 100000,l,ck,wr,s,Q⟩ 100000 l 0 0 n f h (n+K) [] [(0,h)] F):
 SM P Y g (.c (.fV K l ck wr)::s) .bV f h n F Q:=by
 intro t hF;obtain⟨h1,n1,vs,hs,e1,e2,e3⟩:=yg 100000 hF e;unfold dW at e3;split at e3
 case h_2=>exact e3.elim
 rename_i G hG;obtain⟨t',w1,w2⟩:=L_ hG hF;obtain⟨x,h2,n2,t2,F2,g1,g2⟩:=oI _ _ _ _ _ _ _ _ e3 t' w2;refine⟨x,h2,n2,t2,F2,?_,g2⟩;rw[<-g1];show iK (EU P Y K l ck wr f h n t) _=_;unfold EU;rw[show vg P Y l 0 0 f t n h (Nat.add n K) [] [(0,h)]= .ok h1 n1 vs hs from e1];dsimp only;rw[L8 hF e2,bF,w1];rfl
end
end
end
section
variable {P:Program} {Y:YT} {E:DE} {D:DK} {k j r n0:Nat} {b:Bool} {ks:List Nat} {g:Option (MO×Bool)} {i:MI} {l:List MQ} {f:FT} {h:AH} {n:Nat} {vs u:List AV} {hs:List (Nat×AH)} {F:Fm}
@[go_sem ↓] theorem adX {q:FuncId} {S:SK} {all:List MQ} {ck:List (Nat×Nat)} {wr:List (Nat×Tmp)} {s:List It} {Q:PQ}:dK P Y ⟨q,S,all,ck,wr,s,Q⟩ (k+1) [] j r n0 f h n vs hs F=(Qj P all F vs hs ck/\dW ⟨q,S,all,ck,wr,s,Q⟩ (Jm all.length wr vs (some F)) f h n):=bD rfl
@[go_sem ↓] theorem akD:dK P Y E (k+1) (⟨3,b,ks,g,i⟩::l) j r n0 f h n vs hs F=d3 P Y (dK P Y E k) (HV j ks vs) ⟨3,b,ks,g,i⟩ l j r n0 f h n vs hs F:=bD rfl
@[go_sem ↓] theorem akE:dK P Y E (k+1) (⟨2,b,ks,g,i⟩::l) j r n0 f h n vs hs F=d2 (dK P Y E k) (HV j ks vs) ⟨2,b,ks,g,i⟩ l j r n0 f h n vs hs F:=bD rfl
@[go_sem ↓] theorem akF:dK P Y E (k+1) (⟨1,true,ks,g,i⟩::l) j r n0 f h n vs hs F=dV (dK P Y E k) (Jl P j ⟨1,true,ks,g,i⟩ h F vs) l j r n0 f h n vs hs F:=bD rfl
@[go_sem ↓] theorem ah4 {x:Nat×AH}:dK P Y E (k+1) (⟨1,false,ks,g,i⟩::l) j r n0 f h n vs (x::hs) F=dV (dK P Y E k) (Jl P j ⟨1,false,ks,g,i⟩ x.2 F vs) l j r n0 f h n vs (x::hs) F:=bD rfl
@[go_sem ↓] theorem akG:dK P Y E (k+1) (⟨0,b,ks,g,i⟩::l) j r n0 f h n vs hs F=dV (dK P Y E k) (Jl P j ⟨0,b,ks,g,i⟩ .z F vs) l j r n0 f h n vs hs F:=bD rfl
@[go_sem] theorem akH {o:MQ}:d3 P Y D (some u) o l j r n0 f h n vs hs F=dG P Y D (gO o.g F u) o.i u l j r n0 f h n vs hs F:=bD rfl
@[go_sem] theorem akI {o:MQ}:d2 D (some u) o l j r n0 f h n vs hs F=dA D (gO o.g F u) (Qh o.i (n0+r) F u) l j r n0 f h n vs hs F:=bD rfl
def Sc(w:Bool)(a:Option AV):Option Bool:=match a with|some (.b x)=>some (w==x)|some (.bS _)=>some false|_=>none
@[go_sem] theorem ah5 {w:Bool} {c:List AV}:Sc w (some (.bS c))=some false:=rfl
@[go_sem] theorem adY:Sc true (some (.b true))=some true:=rfl
@[go_sem] theorem adZ:Sc true (some (.b false))=some false:=rfl
@[go_sem] theorem ad1:Sc false (some (.b true))=some false:=rfl
@[go_sem] theorem ad2:Sc false (some (.b false))=some true:=rfl
@[go_sem] theorem akJ:gO none F u=some true:=rfl
@[go_sem] theorem akK {x:MO} {w:Bool}:gO (some (x,w)) F u=Sc w (ev x F u):=rfl
@[go_sem] theorem akL:dG P Y D (some true) i u l j r n0 f h n vs hs F=dX P Y D i u l j r n0 f h n vs hs F:=bD rfl
@[go_sem] theorem akM:dG P Y D (some false) i u l j r n0 f h n vs hs F=D l (j+1) r n0 f h n (.bS []::vs) ((j+1,h)::hs) F:=bD rfl
@[go_sem ↓] theorem ah6 {w:Nat} {a x:MO}:dX P Y D (.st w a x) u l j r n0 f h n vs hs F=dT D (ev a F u) (Jh w (ev x F u)) l j r n0 f h n vs hs F:=bD rfl
@[go_sem ↓] theorem ad3 {e w:Nat} {x y:MO}:dX P Y D (.app e w x y) u l j r n0 f h n vs hs F=dR D (PY e w h n (ev x F u) (ev y F u)) l j r n0 f vs hs F:=bD rfl
@[go_sem ↓] theorem ad4 {w:Nat} {x y:MO}:dX P Y D (.PO w x y) u l j r n0 f h n vs hs F=dR D (Uf w h n (ev x F u) (ev y F u)) l j r n0 f vs hs F:=bD rfl
@[go_sem ↓] theorem ad5 {kt:TypeId} {m k x:MO}:dX P Y D (.upd kt m k x) u l j r n0 f h n vs hs F=dR D (Ug P kt h n (ev m F u) (ev k F u) (ev x F u)) l j r n0 f vs hs F:=bD rfl
@[go_sem] theorem ad6 {v:AV}:dR D (some (.ok v h n)) l j r n0 f vs hs F=D l (j+1) r n0 f h n (v::vs) ((j+1,h)::hs) F:=bD rfl
@[go_sem ↓] theorem ab0 {q:MO} {cs:List MO}:dX P Y D (.call q cs) u l j r n0 f h n vs hs F=dF Y D (ev q F u) (evs cs F u) l j r n0 f h n vs hs F:=bD rfl
@[go_sem] theorem akN {x o:Nat} {c:Option (List AV)}:dT D (some (.p x o)) c l j r n0 f h n vs hs F=dH D x (fC (h.get x) o c) l j r n0 f h n vs hs F:=bD rfl
@[go_sem] theorem akO {x:Nat} {a:AO}:dH D x (some a) l j r n0 f h n vs hs F=D l (j+1) r n0 f (h.set x a) n (.bS []::vs) ((j+1,h.set x a)::hs) F:=bD rfl
theorem vD{q:FuncId}{cap c:List AV}:dF Y D (some (.f q cap)) (some c) l j r n0 f h n vs hs F=CW f q (c++cap) h n λv h n=>D l (j+1) r n0 f h n (v::vs) ((j+1,h)::hs) F:=rfl
@[go_sem] theorem akP {v:AV}:dV D (some v) l j r n0 f h n vs hs F=D l (j+1) r n0 f h n (v::vs) hs F:=bD rfl
@[go_sem] theorem akQ {v:AV} {o:AO}:dA D (some true) (some (v,o)) l j r n0 f h n vs hs F=D l (j+1) (r+1) n0 f (h.set (n0+r) o) n (v::vs) hs F:=bD rfl
@[go_sem] theorem akR {v:Option (AV×AO)}:dA D (some false) v l j r n0 f h n vs hs F=D l (j+1) (r+1) n0 f h n (.bS []::vs) hs F:=by cases v<;>rfl
@[go_sem] theorem ad7 {e:TypeId} {z:List AV} {x:Nat}:Qh (.al e z) x F u=some (.p x 0,.row e z):=rfl
@[go_sem] theorem ab1 {e w:Nat} {a:MO} {x:Nat}:Qh (.box e w a) x F u=(Jh w (ev a F u)).map λc=>(.p x 0,.row e c):=rfl
@[go_sem] theorem ab2 {e len:Nat} {z:List AV} {fs:List (Nat×Nat×MO)} {x:Nat}:Qh (.rP e len z fs) x F u=(colE fs F u z).map λc=>(.sl x 0 0 len (some len),.row e c):=rfl
@[go_sem] theorem ab3 {x:Nat}:Qh .Ht x F u=some (.m x,.mp [] 0):=rfl
noncomputable def dvL (P:Program)(u:Option (List AV))(g:Option (MO×Bool))(i:MI)(h:AH)(F:Fm):Option AV:=match u with
 |some l=>Uq (gO g F l) (qI P i h F l)
 |none=>none
@[go_sem] theorem ah7 {N k:Nat}:Jl P N ⟨k,b,ks,g,i⟩ h F vs=dvL P (HV N ks vs) g i h F:=rfl
@[go_sem] theorem ah8:dvL P (some u) g i h F=Uq (gO g F u) (qI P i h F u):=rfl
@[go_sem] theorem ah9 {v:Option AV}:Uq (some true) v=v:=rfl
@[go_sem] theorem ah_ {v:Option AV}:Uq (some false) v=some (.bS []):=rfl
@[go_sem] theorem aia {N:Nat}:HV N [] vs=some []:=rfl
@[go_sem] theorem aib {N k:Nat}:HV N (k::ks) vs=BK (nv vs (N - 1 - k)) (HV N ks vs):=rfl
@[go_sem] theorem aic {all:List MQ}:Qj P all F vs hs []=True:=bD rfl
@[go_sem] theorem aie {all:List MQ} {a p:Nat} {c:List (Nat×Nat)}:Qj P all F vs hs ((a,p)::c)=(Qi P all.length F vs (nq all a) (Fa p hs) (nv vs (all.length - 1 - a))/\Qj P all F vs hs c):=bD rfl
@[go_sem] theorem ad9 {N:Nat} {H:AH} {v:AV}:Qi P N F vs (some ⟨1,b,ks,g,i⟩) (some H) (some v)=(dvL P (HV N ks vs) g i H F=some v):=by
 show(1=1/\_)=_;simp only[true_and];rfl
@[go_sem] theorem akS {a:MQ} {l:List MQ}:nq (a::l) 0=some a:=rfl
@[go_sem] theorem akT {a:MQ} {l:List MQ} {k:Nat}:nq (a::l) (k+1)=nq l k:=rfl
@[go_sem] theorem ad_ {p q:Nat} {H:AH}:Fa p ((q,H)::hs)=if q=p then some H else Fa p hs:=rfl
@[go_sem] theorem aif {N:Nat} {o:Option Fm}:Jm N [] vs o=o:=by cases o<;>rfl
@[go_sem] theorem aii {N a:Nat} {d:Tmp} {c:List (Nat×Tmp)}:Jm N ((a,d)::c) vs (some F)=Jm N c vs (wr1 F d (nv vs (N - 1 - a))):=rfl
@[go_sem] theorem aij {d:Nat} {v:AV}:wr1 F d (some v)=some (pt F d v):=rfl
@[go_sem] theorem akU {q:FuncId} {S:SK} {all:List MQ} {ck:List (Nat×Nat)} {wr:List (Nat×Tmp)} {s:List It} {Q:PQ} {G:Fm}:dW ⟨q,S,all,ck,wr,s,Q⟩ (some G) f h n=S s .bV f h n G Q:=bD rfl
@[go_sem] theorem aea {x:MO}:qI P (.mv x) h F u=ev x F u:=rfl
@[go_sem] theorem Yz {c a b:MO}:qI P (.pick c a b) h F u=vZ (ev c F u) (ev a F u) (ev b F u):=rfl
@[go_sem] theorem ab4 {z:List AV} {fs:List (Nat×Nat×MO)}:qI P (.jk z fs) h F u=(colE fs F u z).map .agg:=rfl
@[go_sem] theorem aeb {w:Option Nat} {a:MO}:qI P (.ld w a) h F u=R4 h (ev a F u) w:=rfl
@[go_sem] theorem ab5 {op:BinOp} {ty:TypeId} {x y:MO}:qI P (.bin op ty x y) h F u=Yd P op ty (ev x F u) (ev y F u):=rfl
@[go_sem] theorem ab6 {x:MO}:qI P (.not x) h F u=LB (ev x F u):=rfl
@[go_sem] theorem aec {o:Nat} {x:MO}:qI P (.fa o x) h F u=XZ o (ev x F u):=rfl
@[go_sem] theorem ab7 {w:Option Nat} {o:Nat} {x:MO}:qI P (.Wy w o x) h F u=LC w o (ev x F u):=rfl
@[go_sem] theorem ab8 {ty:TypeId} {x:MO}:qI P (.Wx ty x) h F u=(ev x F u).map (.zT ty):=rfl
@[go_sem] theorem ab9 {q:FuncId} {cs:List MO}:qI P (.z8 q cs) h F u=(evs cs F u).map (.f q):=rfl
@[go_sem] theorem ab_ {x:MO} {k:Nat}:qI P (.ext x k) h F u=LG k (ev x F u):=rfl
@[go_sem] theorem YA {x:MO}:qI P (.Jc x) h F u=X3 (ev x F u):=rfl
@[go_sem] theorem YB {x:MO}:qI P (.aW x) h F u=Jg (ev x F u):=rfl
@[go_sem] theorem acd {x:MO}:qI P (.neg x) h F u=X6 (ev x F u):=rfl
@[go_sem] theorem ace {x:MO} {k:IntKind}:qI P (.Di k x) h F u=X8 k (ev x F u):=rfl
@[go_sem] theorem acf {x:MO}:qI P (.Ww x) h F u=X9 (ev x F u):=rfl
@[go_sem] theorem acg {x:MO}:qI P (.gN x) h F u=EW (ev x F u):=rfl
@[go_sem] theorem ach {w:Nat} {x:MO} {lo hi:Option MO}:qI P (.TY w x lo hi) h F u=X_ w (ev x F u) (zo lo F u) (zo hi F u):=rfl
@[go_sem] theorem YC {kt:TypeId} {z:Option AV} {x k:MO} {ok:Bool}:qI P (.look kt z x k ok) h F u=WC P kt z ok h (ev x F u) (ev k F u):=rfl
@[go_sem] theorem aci {w m:Nat} {x k:MO}:qI P (.ER w m x k) h F u=LH w m (ev x F u) (ev k F u):=rfl
@[go_sem] theorem acj {x k:MO}:qI P (.z_ x k) h F u=LJ (ev x F u) (ev k F u):=rfl
@[go_sem] theorem acn {w m:Nat} {x:MO} {lo hi:Option MO}:qI P (.Lj w m x lo hi) h F u=Ji w m (ev x F u) (zo lo F u) (zo hi F u):=rfl
@[go_sem] theorem aco {x:MO} {lo hi:Option MO}:qI P (.RV x lo hi) h F u=Ya (ev x F u) (zo lo F u) (zo hi F u):=rfl
@[go_sem] theorem YD {x:MO}:qI P (.Je x) h F u=lmO h (ev x F u):=rfl
@[go_sem] theorem acp {x:MO}:qI P (.Jb x) h F u=Uc h (ev x F u):=rfl
@[go_sem] theorem aed {x y:MO}:qI P (.mx x y) h F u=Yb (ev x F u) (ev y F u):=rfl
@[go_sem] theorem aee {x y:MO}:qI P (.mn x y) h F u=Yc (ev x F u) (ev y F u):=rfl
@[go_sem] theorem acr {w:Nat} {x k:MO}:qI P (.bJ w x k) h F u=fQ w (ev x F u) (ev k F u):=rfl
end
section
variable {F:Fm} {l c:List AV}
def Us(r:List (Nat×Nat×MO))(F:Fm)(l:List AV)(c:Option (List AV)):Option (List AV):=match c with
 |some c=>colE r F l c
 |none=>none
def spS(u:Option (List AV))(o:Nat)(c:List AV):Option (List AV):=match u with
 |some u=>nV u o c
 |none=>none
@[go_sem] theorem aeg:colE [] F l c=some c:=rfl
@[go_sem] theorem aeh {o w:Nat} {x:MO} {r:List (Nat×Nat×MO)}:colE ((o,w,x)::r) F l c=Us r F l (spS (Jh w (ev x F l)) o c):=by
 rw[colE];unfold Us spS Jh;cases ev x F l with
 |none=>rfl
 |some v=>
  dsimp only;cases qE v with
  |none=>rfl
  |some u=>
   dsimp only;by_cases h:u.length=w
   .rw[if_pos h,if_pos h];dsimp only;cases nV u o c<;>rfl
   .rw[if_neg h,if_neg h]
@[go_sem] theorem aei {r:List (Nat×Nat×MO)}:Us r F l (some c)=colE r F l c:=rfl
@[go_sem] theorem aik {u:List AV} {o:Nat}:spS (some u) o c=nV u o c:=rfl
end
def g_(ty i L c B B1:Nat)(body:MC):MC:=.loop (.seq (.reg [⟨none,.bin .lss ty (.s i) (.s L),.k c⟩]) (.seq (.cond (.s c) .skip (.exit B)) (.seq (.blk B1 body) (.reg [⟨none,.bin .add ty (.s i) (.c (.i .i64 1)),.l⟩,⟨none,.mv (.v 0),.k i⟩]))))
section
variable {P:Program} {Y:YT} {g:FuncId} {f:FT}
def Sd(P:Program)(Y:YT)(g:FuncId)(I:Nat->AH->Nat->Fm->Prop)(k i L N B1:Nat)(s:List It)(f:FT)(Q:PQ):PQ:=λx h n F=>match x with
 | .bV=>lk F i=some (.i .i64 (k:Nat))/\lk F L=some (.i .i64 (N:Nat))/\∃G,I (k+1) h n G/\∀m v,lk G m=some v->lk F m=some v
 | .exit j=>if j=B1 then lk F i=some (.i .i64 (k:Nat))/\lk F L=some (.i .i64 (N:Nat))/\∃G,I (k+1) h n G/\∀m v,lk G m=some v->lk F m=some v else sK P Y g 100000 s (.exit j) f h n F Q
 |x=>sK P Y g 100000 s x f h n F Q
theorem cK{ty i L c B B1:Nat}{body:MC}{s:List It}{Q:PQ}{h:AH}{n:Nat}{F:Fm}(N:Nat)(I:Nat->AH->Nat->Fm->Prop)(hN:N<=1125899906842623)(hic:i≠c)(hLc:L≠c)(hiL:i≠L)
 (hfr:∀k h n G,I k h n G->lk G c=none/\lk G i=none)
 (h0:lk F i=some (.i .i64 0)/\lk F L=some (.i .i64 (N:Nat))/\∃G,I 0 h n G/\∀m v,lk G m=some v->lk F m=some v)
 (step:∀k h n G,k<N->I k h n G->sK P Y g 100000 [.c body] .bV f h n (pt (pt G L (.i .i64 (N:Nat))) i (.i .i64 (k:Nat))) (Sd P Y g I k i L N B1 s f Q))
 (fin:∀h n G,I N h n G->sK P Y g 100000 s (.exit B) f h n G Q):SM P Y g (.c (g_ ty i L c B B1 body)::s) .bV f h n F Q:=by
 refine Dj (λm h n F=>∃k,k<=N/\m=N - k/\lk F i=some (.i .i64 (k:Nat))/\lk F L=some (.i .i64 (N:Nat))/\∃G,I k h n G/\∀m v,lk G m=some v->lk F m=some v) N hN ⟨F,⟨0,Nat.zero_le _,rfl,h0⟩,λ_ _ e=>e⟩ ?_;rintro m h n F ⟨k,hk,rfl,e1,e2,G,hI,hG⟩ t hF;obtain⟨f1,f2⟩:=hfr k h n G hI;have t1:=hF i _ e1;have t2:=hF L _ e2;have r1:(MC.reg [⟨none,.bin .lss ty (.s i) (.s L),.k c⟩]).run P Y g f h n t= .ok .bV h n ((pp 20 c).run (.b (decide ((k:Int)<(N:Int)))) t):=by
  show oH P Y _ f h n t []=_;rw[oH];show mJ (aJ ((gp 20 i).run t) λx=>aJ ((gp 20 L).run t) λy=>ok1 ((d_ P ty .lss).run x y) h n) _=_;rw[kL,t1];show mJ (aJ ((gp 20 L).run t) λy=>ok1 ((d_ P ty .lss).run _ y) h n) _=_;rw[kL,t2];show mJ (ok1 ((d_ P ty .lss).run (.i .i64 k) (.i .i64 N)) h n) _=_;rw[Qf];rfl
 have gc:∀t0:Tr AV,gH (.s c) ((pp 20 c).run (.b (decide ((k:Int)<(N:Int)))) t0) []=some (.b (decide ((k:Int)<(N:Int)))):=λt0=>by
  show(gp 20 c).run _=_;rw[kL,iY,if_pos rfl]
 have hG1:Fk ((pp 20 c).run (.b (decide ((k:Int)<(N:Int)))) t) G:=λm v e=>by
  rw[iY,if_neg (λe0=>by rw[e0,f1]at e;cases e)];exact hF m v (hG m v e)
 have out:∀r:fu,(MC.seq (.reg [⟨none,.bin .lss ty (.s i) (.s L),.k c⟩]) (.seq (.cond (.s c) .skip (.exit B)) (.seq (.blk B1 body) (.reg [⟨none,.bin .add ty (.s i) (.c (.i .i64 1)),.l⟩,⟨none,.mv (.v 0),.k i⟩])))).run P Y g f h n t=r->
  iK ((MC.seq (.reg [⟨none,.bin .lss ty (.s i) (.s L),.k c⟩]) (.seq (.cond (.s c) .skip (.exit B)) (.seq (.blk B1 body) (.reg [⟨none,.bin .add ty (.s i) (.c (.i .i64 1)),.l⟩,⟨none,.mv (.v 0),.k i⟩])))).run P Y g f h n t) (λx h n t=>mW P Y g [] x f h n t)=r:=λr e=>by
  rw[e];cases r<;>rfl
 by_cases hlt:k<N
 .have hd:decide ((k:Int)<(N:Int))=true:=decide_eq_true (by omega)
  have hF2:Fk ((pp 20 c).run (.b (decide ((k:Int)<(N:Int)))) t) (pt (pt G L (.i .i64 (N:Nat))) i (.i .i64 (k:Nat))):=λm v e=>by
   rw[jN,jN]at e;split at e
   .cases e;subst_vars;rw[iY,if_neg hic];exact t1
   .split at e
    .cases e;subst_vars;rw[iY,if_neg hLc];exact t2
    .exact hG1 m v e
  obtain⟨x,h1,n1,t3,F3,b1,b2,b3⟩:=oI _ _ _ _ _ _ _ _ (step k h n G hlt hI) _ hF2;obtain⟨x0,h0',n0',t0',b0,b1⟩:=iZ (show iK (body.run P Y g f h n _) (λx h n t=>mW P Y g [] x f h n t)= .ok x h1 n1 t3 from b1);cases b1
  have head:∀r:fu,iK (iK (body.run P Y g f h n ((pp 20 c).run (.b (decide ((k:Int)<(N:Int)))) t)) λx h n t=>match x with
   | .exit j=>bc (Nat.beq j B1) (.ok .bV h n t) (.ok (.exit j) h n t)
   |x=>.ok x h n t) (λx h n t=>Cy x ((MC.reg [⟨none,.bin .add ty (.s i) (.c (.i .i64 1)),.l⟩,⟨none,.mv (.v 0),.k i⟩]).run P Y g f h n t) (.ok x h n t))=r->
   (MC.seq (.reg [⟨none,.bin .lss ty (.s i) (.s L),.k c⟩]) (.seq (.cond (.s c) .skip (.exit B)) (.seq (.blk B1 body) (.reg [⟨none,.bin .add ty (.s i) (.c (.i .i64 1)),.l⟩,⟨none,.mv (.v 0),.k i⟩])))).run P Y g f h n t=r:=λr e=>by
   rw[<-e];show iK ((MC.reg _).run P Y g f h n t) _=_;rw[r1];show iK (match gH (.s c) _ []with|some (.b x)=>bc x (fu.ok .bV h n _) (.ok (.exit B) h n _)|_=>.bad) _=_;rw[gc,hd];rfl
  rw[b0]at head
  -- the next round
  have next:(lk F3 i=some (.i .i64 (k:Nat))/\lk F3 L=some (.i .i64 (N:Nat))/\∃G,I (k+1) h1 n1 G/\∀m v,lk G m=some v->lk F3 m=some v)->
   (MC.reg [⟨none,.bin .add ty (.s i) (.c (.i .i64 1)),.l⟩,⟨none,.mv (.v 0),.k i⟩]).run P Y g f h1 n1 t3= .ok .bV h1 n1 ((pp 20 i).run (.i .i64 ((k+1:Nat):Int)) t3)/\Fk ((pp 20 i).run (.i .i64 ((k+1:Nat):Int)) t3) (pt F3 i (.i .i64 ((k+1:Nat):Int)))/\
    WI P Y g (λm h n F=>∃k,k<=N/\m=N - k/\lk F i=some (.i .i64 (k:Nat))/\lk F L=some (.i .i64 (N:Nat))/\∃G,I k h n G/\∀m v,lk G m=some v->lk F m=some v) (N - k) s f Q .bV h1 n1 (pt F3 i (.i .i64 ((k+1:Nat):Int))):=by
   rintro⟨c1,c2,G',c3,c4⟩;refine⟨?_,b2.put _ _,⟨N - (k+1),_,by omega,⟨k+1,by omega,rfl,by rw[jN,if_pos rfl],by rw[jN,if_neg (λe=>hiL e.symm)];exact c2,G',c3,λm v e=>?_⟩,λ_ _ e=>e⟩⟩
   .show oH P Y _ f h1 n1 t3 []=_
    rw[oH];show mJ (aJ ((gp 20 i).run t3) λx=>aJ (some (AV.i .i64 1)) λy=>ok1 ((d_ P ty .add).run x y) h1 n1) _=_;rw[kL,b2 i _ c1];show mJ (ok1 ((d_ P ty .add).run (.i .i64 k) (.i .i64 1)) h1 n1) _=_;rw[Qg,dM (by omega) (by omega)];rfl
   .rw[jN,if_neg (λe0=>by rw[e0,(hfr _ _ _ _ c3).2]at e;cases e)]
    exact c4 m v e
  cases x with
  |bV=>
   obtain⟨n1',n2,n3⟩:=next b3;refine⟨_,_,_,_,_,out _ (head _ ?_),n2,n3⟩;exact n1'
  |exit j=>
   by_cases hj:j=B1
   .obtain⟨n1',n2,n3⟩:=next (by have b3:(if j=B1 then _ else _):=b3;rw[if_pos hj]at b3;exact b3)
    refine⟨_,_,_,_,_,out _ (head _ ?_),n2,n3⟩;show iK (bc (Nat.beq j B1) (fu.ok .bV h1 n1 t3) (.ok (.exit j) h1 n1 t3)) _=_;rw[hj,Nat.beq_refl];exact n1'
   .refine⟨.exit j,h1,n1,_,F3,out _ (head _ ?_),b2,?_⟩
    .show iK (bc (Nat.beq j B1) (fu.ok .bV h1 n1 t3) (.ok (.exit j) h1 n1 t3)) _=_
     have:Nat.beq j B1=false:=by
      cases e:Nat.beq j B1 with
      |false=>rfl
      |true=>exact absurd (beq_eq e) hj
     rw[this];rfl
    .have b3:(if j=B1 then _ else sK P Y g 100000 s (.exit j) f h1 n1 F3 Q):=b3
     rw[if_neg hj]at b3;exact b3
  |goto j=>exact⟨.goto j,h1,n1,_,F3,out _ (head _ rfl),b2,b3⟩
  |ret=>exact⟨.ret,h1,n1,_,F3,out _ (head _ rfl),b2,b3⟩
 .obtain rfl:k=N:=by omega
  have hd:decide ((k:Int)<(k:Int))=false:=by simp
  refine⟨.exit B,h,n,_,G,out _ ?_,hG1,fin h n G hI⟩;show iK ((MC.reg _).run P Y g f h n t) _=_;rw[r1];show iK (match gH (.s c) _ []with|some (.b x)=>bc x (fu.ok .bV h n _) (.ok (.exit B) h n _)|_=>.bad) _=_;rw[gc,hd];rfl
@[reducible] def nl (i:MI):MR:=⟨none,i,.l⟩
@[reducible] def nk (k:Nat) (i:MI):MR:=⟨none,i,.k k⟩
@[reducible] def ng (k:Nat) (b:Bool) (i:MI):MR:=⟨some (.v k,b),i,.l⟩
@[reducible] def mq (k:Nat) (ks:List Nat) (i:MI):MQ:=⟨k,true,ks,none,i⟩
end
end Go.Proofs.YtjoohkjmoghmoaaGreatDoor

/- part -/
import Derived.Test.YtjoohkjmoghmoaaGreatDoorP05
set_option linter.all false
namespace Go.Proofs.YtjoohkjmoghmoaaGreatDoor
section
section
variable {P:Program} {Y:YT} {g:FuncId} {f:FT} {h:AH} {n k:Nat} {F:Fm} {l:List AV} {s:List It} {r:List MR} {Q:PQ} {S:SK} {d:MD} {x:Ex}
@[go_sem ↓] theorem aaA:sK P Y g (k+1) [] x f h n F Q=Q x h n F:=bH rfl
@[go_sem ↓] theorem ahB {id:Nat}:sK P Y g (k+1) (.b id::s) x f h n F Q=sK P Y g k s (Rh x id) f h n F Q:=bH rfl
@[go_sem ↓] theorem YD:sK P Y g (k+1) (.c .skip::s) .bZ f h n F Q=sK P Y g k s .bZ f h n F Q:=bH rfl
@[go_sem ↓] theorem aaB:sK P Y g (k+1) (.c (.reg r)::s) .bZ f h n F Q=sK P Y g k (.r r []::s) .bZ f h n F Q:=bH rfl
@[go_sem ↓] theorem aaC {a b:MC}:sK P Y g (k+1) (.c (.seq a b)::s) .bZ f h n F Q=sK P Y g k (.c a:: .c b::s) .bZ f h n F Q:=bH rfl
@[go_sem ↓] theorem YE {c:MO} {a b:MC}:sK P Y g (k+1) (.c (.cond c a b)::s) .bZ f h n F Q=kB (sK P Y g k) (ev c F []) a b s f h n F Q:=bH rfl
@[go_sem ↓] theorem aaD {id:Nat} {a:MC}:sK P Y g (k+1) (.c (.blk id a)::s) .bZ f h n F Q=sK P Y g k (.c a:: .b id::s) .bZ f h n F Q:=bH rfl
@[go_sem ↓] theorem YF {id:Nat}:sK P Y g (k+1) (.c (.exit id)::s) .bZ f h n F Q=sK P Y g k s (.exit id) f h n F Q:=bH rfl
@[go_sem ↓] theorem aaE:sK P Y g (k+1) (.c .ret::s) .bZ f h n F Q=sK P Y g k s .ret f h n F Q:=bH rfl
@[go_sem ↓] theorem YG {a:MC}:sK P Y g (k+1) (.c (.loop a)::s) .bZ f h n F Q=SM P Y g (.c (.loop a)::s) .bZ f h n F Q:=bH rfl
@[go_sem ↓] theorem aaF {a:MO} {b:List Tmp} {c d:Code}:sK P Y g (k+1) (.c (.rng a b c d)::s) .bZ f h n F Q=SM P Y g (.c (.rng a b c d)::s) .bZ f h n F Q:=bH rfl
@[go_sem ↓] theorem aaG {a:Nat} {b:List MQ} {c:List (Nat×Nat)} {d:List (Nat×Tmp)}:sK P Y g (k+1) (.c (.fM a b c d)::s) .bZ f h n F Q=SM P Y g (.c (.fM a b c d)::s) .bZ f h n F Q:=bH rfl
@[go_sem ↓] theorem aew {id:Nat} {m:MC}:sK P Y g (k+1) (.c m::s) (.exit id) f h n F Q=sK P Y g k s (.exit id) f h n F Q:=bH rfl
@[go_sem ↓] theorem aex {m:MC}:sK P Y g (k+1) (.c m::s) .ret f h n F Q=sK P Y g k s .ret f h n F Q:=bH rfl
@[go_sem ↓] theorem aey:sK P Y g (k+1) (.r [] l::s) x f h n F Q=sK P Y g k s x f h n F Q:=bH rfl
@[go_sem ↓] theorem aez {i:MI}:sK P Y g (k+1) (.r (⟨none,i,d⟩::r) l::s) .bZ f h n F Q=iW P Y (sK P Y g k) i d r l s f h n F Q:=bH rfl
def kW(P:Program)(Y:YT)(S:SK)(o:Option AV)(w:Bool)(i:MI)(d:MD)(r:List MR)(l:List AV)(s:List It)(f:FT)(h:AH)(n:Nat)(F:Fm)(Q:PQ):Prop:=match o with
 |some (.b x)=>kG S (some (w==x)) i d r l s f h n F Q (iW P Y)
 |some (.bV _)=>lJ S d (.bV []) r l s f h n F Q
 |_=>False
@[go_sem ↓] theorem aeA {a:MO} {w:Bool} {i:MI}:sK P Y g (k+1) (.r (⟨some (a,w),i,d⟩::r) l::s) .bZ f h n F Q=kW P Y (sK P Y g k) (ev a F l) w i d r l s f h n F Q:=by
 show kG (sK P Y g k) (gO (some (a,w)) F l) i d r l s f h n F Q (iW P Y)=_;unfold gO kW;dsimp only;cases ev a F l with
 |none=>rfl
 |some v=>cases v<;>rfl
@[go_sem] theorem ahC {i:MI} {w:Bool} {c:List AV}:kW P Y S (some (.bV c)) w i d r l s f h n F Q=lJ S d (.bV []) r l s f h n F Q:=bH rfl
@[go_sem] theorem aeB {i:MI}:kW P Y S (some (.b true)) true i d r l s f h n F Q=iW P Y S i d r l s f h n F Q:=bH rfl
@[go_sem] theorem aeC {i:MI}:kW P Y S (some (.b false)) false i d r l s f h n F Q=iW P Y S i d r l s f h n F Q:=bH rfl
@[go_sem] theorem aeD {i:MI}:kW P Y S (some (.b true)) false i d r l s f h n F Q=lJ S d (.bV []) r l s f h n F Q:=bH rfl
@[go_sem] theorem aeE {i:MI}:kW P Y S (some (.b false)) true i d r l s f h n F Q=lJ S d (.bV []) r l s f h n F Q:=bH rfl
@[go_sem] theorem ahD {a b:MC}:kB S (some (.b true)) a b s f h n F Q=S (.c a::s) .bZ f h n F Q:=bH rfl
@[go_sem] theorem ahE {a b:MC}:kB S (some (.b false)) a b s f h n F Q=S (.c b::s) .bZ f h n F Q:=bH rfl
@[go_sem] theorem aeF {v:AV}:lJ S .n v r l s f h n F Q=S (.r r l::s) .bZ f h n F Q:=bH rfl
@[go_sem] theorem aeG {v:AV}:lJ S .l v r l s f h n F Q=S (.r r (v::l)::s) .bZ f h n F Q:=bH rfl
def kP(S:SK)(G:Fm)(r:List MR)(l:List AV)(s:List It)(f:FT)(h:AH)(n:Nat)(Q:PQ):Prop:=S (.r r l::s) .bZ f h n G Q
@[go_sem ↓] theorem aeH {v:AV} {e:Nat}:lJ S (.k e) v r l s f h n F Q=kP S (pt F e v) r l s f h n Q:=bH rfl
@[go_sem] theorem ahF:kP S F r l s f h n Q=S (.r r l::s) .bZ f h n F Q:=rfl
@[go_sem] theorem ahG {v:AV}:kS S (some v) d r l s f h n F Q=lJ S d v r l s f h n F Q:=bH rfl
@[go_sem] theorem ahH {c:List AV} {e:TypeId} {v:AV}:kC S (some c) e v d r l s f h n F Q=lJ S d v r l s f (h.set n (.row e c)) (n+1) F Q:=bH rfl
@[go_sem] theorem ahI {b:Nat} {a:AO}:kH S b (some a) d r l s f h n F Q=lJ S d (.bV []) r l s f (h.set b a) n F Q:=bH rfl
@[go_sem] theorem ahJ {b o:Nat} {u:Option (List AV)}:kT S (some (.p b o)) u d r l s f h n F Q=kH S b (fu (h.get b) o u) d r l s f h n F Q:=bH rfl
theorem JR{q:FuncId}{cap c:List AV}:kF Y S (some (.f q cap)) (some c) d r l s f h n F Q=CW f q (c++cap) h n λv h n=>lJ S d v r l s f h n F Q:=rfl
theorem tO{q:Nat}{c:List AV}:kF Y S (some (.y q)) (some c) d r l s f h n F Q=RW (Y q c f h n) λv h n=>lJ S d v r l s f h n F Q:=rfl
@[go_sem ↓] theorem aaH {e:TypeId} {z:List AV}:iW P Y S (.al e z) d r l s f h n F Q=kC S (some z) e (.p n 0) d r l s f h n F Q:=bH rfl
@[go_sem ↓] theorem YH {e w:Nat} {x:MO}:iW P Y S (.box e w x) d r l s f h n F Q=kC S (GA w (ev x F l)) e (.p n 0) d r l s f h n F Q:=bH rfl
@[go_sem ↓] theorem YI {e len:Nat} {z:List AV} {fs:List (Nat×Nat×MO)}:iW P Y S (.uE e len z fs) d r l s f h n F Q=kC S (colE fs F l z) e (.sl n 0 0 len (some len)) d r l s f h n F Q:=bH rfl
@[go_sem ↓] theorem aaI {w:Nat} {a x:MO}:iW P Y S (.st w a x) d r l s f h n F Q=kT S (ev a F l) (GA w (ev x F l)) d r l s f h n F Q:=bH rfl
@[go_sem ↓] theorem YJ:iW P Y S .Iq d r l s f h n F Q=lJ S d (.m n) r l s f (h.set n (.mp [] 0)) (n+1) F Q:=bH rfl
@[go_sem ↓] theorem YK {w:Nat} {x i:MO}:iW P Y S (.bM w x i) d r l s f h n F Q=PV S w (ev x F l) (ev i F l) d r l s f h n F Q:=bH rfl
@[go_sem ↓] theorem Vo {q:MO} {c:List MO}:iW P Y S (.call q c) d r l s f h n F Q=kF Y S (ev q F l) (evs c F l) d r l s f h n F Q:=bH rfl
@[go_sem ↓] theorem aaJ {x:MO}:iW P Y S (.mv x) d r l s f h n F Q=kS S (ev x F l) d r l s f h n F Q:=bH rfl
@[go_sem ↓] theorem Vp {c a b:MO}:iW P Y S (.pick c a b) d r l s f h n F Q=kS S (mM (ev c F l) (ev a F l) (ev b F l)) d r l s f h n F Q:=bH rfl
@[go_sem ↓] theorem YL {z:List AV} {fs:List (Nat×Nat×MO)}:iW P Y S (.jH z fs) d r l s f h n F Q=kS S ((colE fs F l z).map .agg) d r l s f h n F Q:=bH rfl
@[go_sem ↓] theorem aaK {w:Option Nat} {a:MO}:iW P Y S (.ld w a) d r l s f h n F Q=kS S (PS h (ev a F l) w) d r l s f h n F Q:=bH rfl
@[go_sem ↓] theorem YM {op:BinOp} {ty:TypeId} {x y:MO}:iW P Y S (.bin op ty x y) d r l s f h n F Q=kS S (Vh P op ty (ev x F l) (ev y F l)) d r l s f h n F Q:=bH rfl
@[go_sem ↓] theorem YN {x:MO}:iW P Y S (.not x) d r l s f h n F Q=kS S (JE (ev x F l)) d r l s f h n F Q:=bH rfl
@[go_sem ↓] theorem aaL {o:Nat} {x:MO}:iW P Y S (.fa o x) d r l s f h n F Q=kS S (U_ o (ev x F l)) d r l s f h n F Q:=bH rfl
@[go_sem ↓] theorem YO {w:Option Nat} {o:Nat} {x:MO}:iW P Y S (.T_ w o x) d r l s f h n F Q=kS S (JF w o (ev x F l)) d r l s f h n F Q:=bH rfl
@[go_sem ↓] theorem YP {ty:TypeId} {x:MO}:iW P Y S (.T9 ty x) d r l s f h n F Q=kS S ((ev x F l).map (.yu ty)) d r l s f h n F Q:=bH rfl
@[go_sem ↓] theorem YQ {q:FuncId} {cs:List MO}:iW P Y S (.AQ q cs) d r l s f h n F Q=kS S ((evs cs F l).map (.f q)) d r l s f h n F Q:=bH rfl
@[go_sem ↓] theorem YR {x:MO} {i:Nat}:iW P Y S (.ext x i) d r l s f h n F Q=kS S (JG i (ev x F l)) d r l s f h n F Q:=bH rfl
@[go_sem ↓] theorem Vq {x:MO}:iW P Y S (.Gx x) d r l s f h n F Q=kS S (Va (ev x F l)) d r l s f h n F Q:=bH rfl
@[go_sem ↓] theorem YS {x:MO}:iW P Y S (.neg x) d r l s f h n F Q=kS S (Vb (ev x F l)) d r l s f h n F Q:=bH rfl
@[go_sem ↓] theorem YU {x:MO} {k:IntKind}:iW P Y S (.Bw k x) d r l s f h n F Q=kS S (Vd k (ev x F l)) d r l s f h n F Q:=bH rfl
@[go_sem ↓] theorem YV {x:MO}:iW P Y S (.TY x) d r l s f h n F Q=kS S (Ve (ev x F l)) d r l s f h n F Q:=bH rfl
@[go_sem ↓] theorem YW {x:MO}:iW P Y S (.gI x) d r l s f h n F Q=kS S (Dm (ev x F l)) d r l s f h n F Q:=bH rfl
@[go_sem ↓] theorem YX {w:Nat} {x:MO} {lo hi:Option MO}:iW P Y S (.Q8 w x lo hi) d r l s f h n F Q=kS S (Vf w (ev x F l) (xK lo F l) (xK hi F l)) d r l s f h n F Q:=bH rfl
@[go_sem ↓] theorem YZ {x:MO} {lo hi:Option MO}:iW P Y S (.PI x lo hi) d r l s f h n F Q=kS S (Vg (ev x F l) (xK lo F l) (xK hi F l)) d r l s f h n F Q:=bH rfl
@[go_sem ↓] theorem Vr {x:MO}:iW P Y S (.Gy x) d r l s f h n F Q=kS S (Yw h (ev x F l)) d r l s f h n F Q:=bH rfl
@[go_sem ↓] theorem Vs {kt:TypeId} {z:Option AV} {x k:MO} {ok:Bool}:iW P Y S (.look kt z x k ok) d r l s f h n F Q=kS S (Ub P kt z ok h (ev x F l) (ev k F l)) d r l s f h n F Q:=bH rfl
@[go_sem ↓] theorem Y1 {w m:Nat} {x k:MO}:iW P Y S (.Nr w m x k) d r l s f h n F Q=kS S (JH w m (ev x F l) (ev k F l)) d r l s f h n F Q:=bH rfl
@[go_sem ↓] theorem Y2 {x k:MO}:iW P Y S (.yF x k) d r l s f h n F Q=kS S (JI (ev x F l) (ev k F l)) d r l s f h n F Q:=bH rfl
@[go_sem ↓] theorem Y3 {lw:Option Nat} {w m:Nat} {x k:MO}:iW P Y S (.U7 lw w m x k) d r l s f h n F Q=kS S (Rf lw w m (ev x F l) (ev k F l)) d r l s f h n F Q:=bH rfl
@[go_sem ↓] theorem Y4 {w m:Nat} {x:MO} {lo hi:Option MO}:iW P Y S (.Jt w m x lo hi) d r l s f h n F Q=kS S (GD w m (ev x F l) (xK lo F l) (xK hi F l)) d r l s f h n F Q:=bH rfl
@[go_sem ↓] theorem Vt {m:Nat} {x:MO}:iW P Y S (.Ju m x) d r l s f h n F Q=kS S ((ev x F l).map λ_=>.i .i64 (m:Nat)) d r l s f h n F Q:=bH rfl
@[go_sem ↓] theorem aaM {x y:MO}:iW P Y S (.mx x y) d r l s f h n F Q=kS S (Yx (ev x F l) (ev y F l)) d r l s f h n F Q:=bH rfl
@[go_sem ↓] theorem aaN {x y:MO}:iW P Y S (.mn x y) d r l s f h n F Q=kS S (Yy (ev x F l) (ev y F l)) d r l s f h n F Q:=bH rfl
@[go_sem ↓] theorem Y5 {x:MO}:iW P Y S (.Gw x) d r l s f h n F Q=kS S (Rc h (ev x F l)) d r l s f h n F Q:=bH rfl
@[go_sem ↓] theorem Y6 {e w:Nat} {x y:MO}:iW P Y S (.app e w x y) d r l s f h n F Q=kR S (Nz e w h n (ev x F l) (ev y F l)) d r l s f F Q:=bH rfl
@[go_sem ↓] theorem Y7 {w:Nat} {x y:MO}:iW P Y S (.Ns w x y) d r l s f h n F Q=kR S (Ri w h n (ev x F l) (ev y F l)) d r l s f F Q:=bH rfl
@[go_sem ↓] theorem Y8 {kt:TypeId} {m k x:MO}:iW P Y S (.upd kt m k x) d r l s f h n F Q=kR S (Rj P kt h n (ev m F l) (ev k F l) (ev x F l)) d r l s f F Q:=bH rfl
@[go_sem ↓] theorem Y9 {e:TypeId} {z:List AV} {x y:MO}:iW P Y S (.zR e z x y) d r l s f h n F Q=kR S (Vi e z h n (ev x F l) (ev y F l)) d r l s f F Q:=bH rfl
@[go_sem] theorem aaO {v:AV} {h':AH} {n':Nat}:kR S (some (.ok v h' n')) d r l s f F Q=lJ S d v r l s f h' n' F Q:=bH rfl
@[go_sem] theorem Vu {e w:Nat} {x y:AV}:Nz e w h n (some x) (some y)=some ((iU e w).run h n x y):=rfl
@[go_sem] theorem aeI {w:Nat} {x y:AV}:Ri w h n (some x) (some y)=some (pV w h n x y):=rfl
@[go_sem] theorem aeJ {kt:TypeId} {m k x:AV}:Rj P kt h n (some m) (some k) (some x)=some (CJ (pR P 30 kt) (xI P 30 kt) h n m k x):=rfl
@[go_sem] theorem aeK {k:IntKind} {v:Int}:Vb (some (.i k v))=some (.i k (f_ k (0 - v))):=rfl
@[go_sem] theorem aeL {k j:IntKind} {v:Int}:Vd k (some (.i j v))=some (.i k (f_ k v)):=rfl
@[go_sem] theorem aeM {c:List UInt8}:Ve (some (.s c))=some (.s c):=rfl
@[go_sem] theorem aaP {b o:Nat}:Dm (some (.p b o))=some (.p b o):=rfl
@[go_sem] theorem aaQ {q:FuncId} {c:List AV}:Dm (some (.f q c))=some (.f q c):=rfl
@[go_sem] theorem aaR {q:Nat}:Dm (some (.y q))=some (.y q):=rfl
@[go_sem] theorem aeN:xK none F l=some none:=rfl
def evj(a:Option AV):Option (Option Int):=match a with|some (.i _ n)=>some (some n)|_=>none
@[go_sem] theorem aeP {k:IntKind} {v:Int}:evj (some (.i k v))=some (some v):=rfl
@[go_sem] theorem aeQ {x:MO}:xK (some x) F l=evj (ev x F l):=rfl
@[go_sem] theorem aeR {kt:TypeId} {z:Option AV} {ok:Bool} {x k:AV}:Ub P kt z ok h (some x) (some k)=lookO (pR P 30 kt) (xI P 30 kt) z ok h x k:=rfl
@[go_sem ↓] theorem Vv {x:MO}:iW P Y S (.bf x) d r l s f h n F Q=kS S (Iu (ev x F l)) d r l s f h n F Q:=bH rfl
@[go_sem] theorem aeS {id:Nat}:Rh .bZ id= .bZ:=rfl
@[go_sem] theorem aeT {id:Nat}:Rh .ret id= .ret:=rfl
@[go_sem] theorem aeU {j id:Nat}:Rh (.exit j) id=if j=id then .bZ else .exit j:=rfl
@[go_sem] theorem aeV {rs:List MS} {Q:AV->AH->Nat->Prop}:MP rs Q .ret h n F=Rl (rsE rs F h) h n Q:=bH rfl
@[go_sem] theorem aeW {rs:List MS} {Q:AV->AH->Nat->Prop}:MP rs Q .bZ h n F=Rl (rsE rs F h) h n Q:=bH rfl
@[go_sem] theorem aeX {c:List AV} {Q:AV->AH->Nat->Prop}:Rl (some c) h n Q=Q (Vk c) h n:=bH rfl
@[go_sem] theorem aeY {a:AV}:Vk [a]=a:=rfl
@[go_sem] theorem aeZ:Vk []= .bV []:=rfl
@[go_sem] theorem ae0 {a b:AV} {c:List AV}:Vk (a::b::c)= .bV (a::b::c):=rfl
theorem BG{I:Nat->AH->Nat->Fm->Prop}{i:Nat}:Uf P Y g I i s f Q .bZ h n F=∃j G,j<i/\I j h n G/\∀m v,lk G m=some v->lk F m=some v:=rfl
@[go_sem ↓] theorem ae1 {I:Nat->AH->Nat->Fm->Prop} {i j:Nat}:Uf P Y g I i s f Q (.exit j) h n F=sK P Y g 100000 s (.exit j) f h n F Q:=bH rfl
@[go_sem ↓] theorem ae2 {I:Nat->AH->Nat->Fm->Prop} {i:Nat}:Uf P Y g I i s f Q .ret h n F=sK P Y g 100000 s .ret f h n F Q:=bH rfl
end
section
variable {h:AH} {w:Option Nat}
@[go_sem] theorem Y_ {a b:Option AV}:mM (some (.b true)) a b=a:=rfl
@[go_sem] theorem Za {a b:Option AV}:mM (some (.b false)) a b=b:=rfl
@[go_sem] theorem ae3 {x k:Nat}:PS h (some (.p x k)) w=pF (h.get x) k w:=rfl
@[go_sem] theorem ae4 {P:Program} {op:BinOp} {ty:TypeId} {a b:AV}:Vh P op ty (some a) (some b)=(dS P ty op).run a b:=rfl
@[go_sem] theorem aaS {b:Bool}:JE (some (.b b))=some (.b (!b)):=rfl
@[go_sem] theorem ae5 {o b k:Nat}:U_ o (some (.p b k))=some (.p b (k+o)):=rfl
@[go_sem] theorem aaT {o:Nat} {c:List AV}:JF w o (some (.agg c))=Ir w c o:=rfl
@[go_sem] theorem ae6 {c:List UInt8}:Va (some (.s c))=some (.i .i64 (c.length:Nat)):=rfl
theorem yG{v:AV}{m:Nat}(e:Ny v=some m):Iu (some v)=some (.i .i64 (m:Nat)):=by unfold Iu;dsimp only;rw[e]
@[go_sem] theorem ae7 {w:Nat} {v:AV}:GA w (some v)=(match pQ v with|some c=>if c.length=w then some c else none|none=>none):=rfl
@[go_sem] theorem Vw {t:TypeId} {l u:List AV} {o:Nat}:fu (some (.row t l)) o (some u)=(pG u o l).map (.row t):=by
 show(match pG u o l with|some m=>some (AO.row t m)|none=>none)=_;cases pG u o l<;>rfl
end
def nv:List AV->Nat->Option AV
 |[],_=>none
 |a::_,0=>some a
 |_::l,k+1=>nv l k
theorem rF:∀(l:List AV)(k:Nat),nv l k=l[k]?
 |[],k=>by simp[nv]
 |a::l,0=>rfl
 |a::l,k+1=>by simp[nv,rF l k]
@[go_sem] theorem ahK {a:AV} {l:List AV}:nv (a::l) 0=some a:=rfl
@[go_sem] theorem ahL {a:AV} {l:List AV} {k:Nat}:nv (a::l) (k+1)=nv l k:=rfl
@[go_sem] theorem aaU {k:Nat} {c:List AV}:JG k (some (.bV c))=nv c k:=(rF c k).symm
@[go_sem] theorem ahM {k:Nat} {F:Fm} {l:List AV}:ev (.s k) F l=lk F k:=rfl
@[go_sem] theorem ahN {k:Nat} {F:Fm} {l:List AV}:ev (.v k) F l=nv l k:=(rF l k).symm
@[go_sem] theorem ahO {a:AV} {F:Fm} {l:List AV}:ev (.c a) F l=some a:=rfl
@[go_sem] theorem Zb {F:Fm} {l:List AV}:evs [] F l=some []:=rfl
def Aa(a:Option AV)(b:Option (List AV)):Option (List AV):=match a,b with|some a,some b=>some (a::b)|_,_=>none
@[go_sem] theorem aaV {a:AV} {b:List AV}:Aa (some a) (some b)=some (a::b):=rfl
@[go_sem] theorem Vx {x:MO} {r:List MO} {F:Fm} {l:List AV}:evs (x::r) F l=Aa (ev x F l) (evs r F l):=by
 rw[evs];unfold Aa;cases ev x F l with
 |none=>rfl
 |some a=>cases evs r F l<;>rfl
@[go_sem] theorem Zc {F:Fm} {h:AH}:rsE [] F h=some []:=rfl
@[go_sem] theorem Vy {r:MS} {l:List MS} {F:Fm} {h:AH}:rsE (r::l) F h=Aa (Dp r F h) (rsE l F h):=by
 rw[rsE];unfold Aa;cases Dp r F h with
 |none=>rfl
 |some a=>cases rsE l F h<;>rfl
@[go_sem] theorem aaW {k:Nat} {F:Fm} {h:AH}:Dp (.t k) F h=lk F k:=rfl
@[go_sem] theorem aaX {k:Nat} {w:Option Nat} {F:Fm} {h:AH}:Dp (.c k w) F h=PS h (lk F k) w:=rfl
@[go_sem] theorem aaY {k:Nat}:lk [] k=none:=rfl
@[go_sem] theorem NM {j k:Nat} {v:AV} {r:Fm}:lk ((j,v)::r) k=if k=j then some v else lk r k:=rfl
@[go_sem] theorem aaZ {k:Nat} {v:AV}:pt [] k v=[(k,v)]:=rfl
@[go_sem] theorem Zd {j k:Nat} {u v:AV} {r:Fm}:pt ((j,u)::r) k v=if k=j then(k,v)::r else(j,u)::pt r k v:=rfl
@[go_sem] theorem aa0 {k:Nat} {bs:List Bool} {v:AV} {l:List AV}:uZ k (true::bs) (v::l)=(k,v)::uZ (k+1) bs l:=rfl
@[go_sem] theorem aa1 {k:Nat} {bs:List Bool} {v:AV} {l:List AV}:uZ k (false::bs) (v::l)=uZ (k+1) bs l:=rfl
@[go_sem] theorem aa2 {k:Nat}:uZ k [] []=[]:=rfl
theorem aZ{F:Fm}:∀m v,lk [] m=some v->lk F m=some v:=λ_ _ e=>by cases e
theorem aW{F:Fm}{k:Nat}{u:AV}{r:Fm}(h:lk F k=some u)(q:∀m v,lk r m=some v->lk F m=some v):∀m v,lk ((k,u)::r) m=some v->lk F m=some v:=λm v e=>by
 rw[NM]at e;split at e
 .cases e;subst_vars;exact h
 .exact q m v e
@[go_sem] theorem ae8 {k:IntKind} {n:Int}:pQ (.i k n)=some [.i k n]:=rfl
@[go_sem] theorem ae9 {b:Bool}:pQ (.b b)=some [.b b]:=rfl
@[go_sem] theorem ae_ {b:List UInt8}:pQ (.s b)=some [.s b]:=rfl
@[go_sem] theorem afa {b o:Nat}:pQ (.p b o)=some [.p b o]:=rfl
@[go_sem] theorem aa3 {b l o n:Nat} {c:Option Nat}:pQ (.sl b l o n c)=some [.sl b l o n c]:=rfl
@[go_sem] theorem afb {b:Nat}:pQ (.m b)=some [.m b]:=rfl
@[go_sem] theorem afc {g:FuncId} {c:List AV}:pQ (.f g c)=some [.f g c]:=rfl
@[go_sem] theorem afd {b:Nat}:pQ (.y b)=some [.y b]:=rfl
@[go_sem] theorem afe {c:Nat}:pQ (.k c)=some [.k c]:=rfl
@[go_sem] theorem aa4 {a:Addr} {c:Nat}:pQ (.es a c)=some [.es a c]:=rfl
@[go_sem] theorem Ze {c:List AV}:pQ (.agg c)=some c:=rfl
theorem SR.cl{h:AH}{n w:Nat}{v:AV}{len:Nat}{cells:List AV}(s:SR h n w v len cells):pQ v=some [v]:=by
 rcases s with⟨rfl,rfl,_⟩|⟨x,lo,o,c,rfl,_⟩|⟨a,c,rfl,_⟩<;>rfl
def tk:Nat->List AV->Option (List AV)
 |0,_=>some []
 |_+1,[]=>none
 |k+1,a::l=>Aa (some a) (tk k l)
theorem PW:∀(k:Nat)(l:List AV),tk k l=if k<=l.length then some (l.take k)else none
 |0,l=>by simp[tk]
 |k+1,[]=>by simp[tk]
 |k+1,a::l=>by
  rw[tk,PW k l];by_cases h:k<=l.length
  .rw[if_pos h,if_pos (by simpa using h)];rfl
  .rw[if_neg h,if_neg (by simpa using h)];rfl
def NP:Nat->Nat->List AV->Option (List AV)
 |0,k,l=>tk k l
 |_+1,_,[]=>none
 |o+1,k,_::l=>NP o k l
theorem JU:∀(o k:Nat)(l:List AV),0<k->NP o k l=if o+k<=l.length then some ((l.drop o).take k)else none
 |0,k,l,_=>by rw[NP,PW];simp
 |o+1,k,[],h=>by rw[NP,if_neg (by simp)]
 |o+1,k,a::l,h=>by
  rw[NP,JU o k l h];simp only[List.length_cons,List.drop_succ_cons,show o+1+k<=l.length+1↔o+k<=l.length by omega]
@[go_sem] theorem ahP {l:List AV}:tk 0 l=some []:=by cases l<;>rfl
@[go_sem] theorem ahQ {a:AV} {l:List AV} {k:Nat}:tk (k+1) (a::l)=Aa (some a) (tk k l):=rfl
@[go_sem] theorem aff {l:List AV} {k:Nat}:NP 0 k l=tk k l:=by cases l<;>rfl
@[go_sem] theorem afg {a:AV} {l:List AV} {o k:Nat}:NP (o+1) k (a::l)=NP o k l:=rfl
@[go_sem] theorem afh {t:TypeId} {l:List AV} {o:Nat}:pF (some (.row t l)) o none=nv l o:=(rF l o).symm
@[go_sem] theorem afi {t:TypeId} {l:List AV} {o k:Nat}:pF (some (.row t l)) o (some (k+1))=(NP o (k+1) l).map .agg:=by
 rw[JU _ _ _ (by omega)];show(if o+(k+1)<=l.length then some (AV.agg ((l.drop o).take (k+1)))else none)=_;split<;>rfl
@[go_sem] theorem afj {l:List AV} {o:Nat}:Ir none l o=nv l o:=by rw[rF];exact lT o l
attribute [go_sem] Option.map_some
def st1:Nat->AV->List AV->Option (List AV)
 |_,_,[]=>none
 |0,v,_::l=>some (v::l)
 |o+1,v,a::l=>Aa (some a) (st1 o v l)
theorem Ab:∀(o:Nat)(v:AV)(l:List AV),st1 o v l=pG [v] o l
 |o,v,[]=>by simp[st1,pG]
 |0,v,a::l=>by simp[st1,pG]
 |o+1,v,a::l=>by
  rw[st1,Ab o v l];unfold pG;by_cases h:o+1<=l.length
  .simp[h,Aa,show o+1+1<=l.length+1 by omega]
  .simp[h,Aa]
@[go_sem] theorem afk {o:Nat} {v:AV} {l:List AV}:pG [v] o l=st1 o v l:=(Ab o v l).symm
@[go_sem] theorem afl {v a:AV} {l:List AV}:st1 0 v (a::l)=some (v::l):=rfl
@[go_sem] theorem afm {v a:AV} {l:List AV} {o:Nat}:st1 (o+1) v (a::l)=Aa (some a) (st1 o v l):=rfl
theorem Vz{u l:List AV}(h:u.length=l.length):pG u 0 l=some u:=by
 unfold pG;rw[if_pos (by omega)];simp[h]
def NQ:List AV->List AV->Option (List AV)
 |[],l=>some l
 |_::_,[]=>none
 |a::u,_::l=>Aa (some a) (NQ u l)
theorem JV:∀(u l:List AV),NQ u l=pG u 0 l
 |[],l=>by simp[NQ,pG]
 |a::u,[]=>by simp[NQ,pG]
 |a::u,c::l=>by
  rw[NQ,JV u l];unfold pG;by_cases h:u.length<=l.length
  .simp[h,Aa]
  .simp[h,Aa]
@[go_sem] theorem afn {l:List AV}:NQ [] l=some l:=by cases l<;>rfl
@[go_sem] theorem afo {a c:AV} {u l:List AV}:NQ (a::u) (c::l)=Aa (some a) (NQ u l):=rfl
@[go_sem] theorem aa5 {a b c:AV} {u l:List AV}:pG (a::b::u) 0 (c::l)=NQ (a::b::u) (c::l):=(JV _ _).symm
@[go_sem] theorem aa6 {a b c:AV} {u l:List AV} {o:Nat}:pG (a::b::u) (o+1) (c::l)=Aa (some c) (pG (a::b::u) o l):=by
 unfold pG;by_cases h:o+(a::b::u).length<=l.length
 .rw[if_pos h,if_pos (by simp at h⊢;omega)]
  simp[Aa,show o+1+(u.length+1+1)=o+(u.length+1+1)+1 by omega]
 .rw[if_neg h,if_neg (by simp at h⊢;omega)];rfl
attribute [go_sem] List.length_cons List.length_nil
@[go_sem] theorem rG {t:AH} {n:Nat} {v:AO}:(t.set n v).get n=some v:=aM
@[go_sem] theorem Uh {t:AH} {n m:Nat} {v:AO} (h:m≠n):(t.set n v).get m=t.get m:=aI h
section
variable {P:Program} {ty:TypeId} {a b:Int}
@[go_sem] theorem NR:(dS P ty .lss).run (.i .i64 a) (.i .i64 b)=some (.b (decide (a<b))):=by
 show bc true (some (AV.b (oC (lM b a)))) none=_;rw[bJ,iQ,eZ];congr 2;by_cases h:a<b<;>simp[h]<;>omega
@[go_sem] theorem Zf:(dS P ty .leq).run (.i .i64 a) (.i .i64 b)=some (.b (decide (a<=b))):=by
 show bc true (some (AV.b (lM a b))) none=_;rw[bJ,eZ]
@[go_sem] theorem Zg:(dS P ty .gtr).run (.i .i64 a) (.i .i64 b)=some (.b (decide (b<a))):=by
 show bc true (some (AV.b (oC (lM a b)))) none=_;rw[bJ,iQ,eZ];congr 2;by_cases h:b<a<;>simp[h]<;>omega
@[go_sem] theorem Zh:(dS P ty .geq).run (.i .i64 a) (.i .i64 b)=some (.b (decide (b<=a))):=by
 show bc true (some (AV.b (lM b a))) none=_;rw[bJ,eZ]
@[go_sem] theorem Zi:(dS P ty .eql).run (.i .i64 a) (.i .i64 b)=some (.b (decide (a=b))):=by
 show bc true (some (AV.b (fC a b))) none=_;rw[bJ,cO]
@[go_sem] theorem Zj:(dS P ty .neq).run (.i .i64 a) (.i .i64 b)=some (.b (!decide (a=b))):=by
 show bc true (some (AV.b (oC (fC a b)))) none=_;rw[bJ,iQ,cO]
@[go_sem] theorem NS:(dS P ty .add).run (.i .i64 a) (.i .i64 b)=some (.i .i64 (f_ .i64 (a+b))):=rfl
@[go_sem] theorem Zk:(dS P ty .sub).run (.i .i64 a) (.i .i64 b)=some (.i .i64 (f_ .i64 (a - b))):=rfl
@[go_sem] theorem Zl:(dS P ty .mul).run (.i .i64 a) (.i .i64 b)=some (.i .i64 (f_ .i64 (a*b))):=rfl
theorem dN{x:Int}(h1: -9223372036854775808<=x)(h2:x<=9223372036854775807):f_ .i64 x=x:=by
 unfold f_;rw[eZ,eZ,show IntKind.i64.min= -9223372036854775808 from by decide,show IntKind.i64.max=9223372036854775807 from by decide];simp[h1,h2,bc]
end
end
section
mutual
theorem wB:∀(a:AV),Gb a a=true
 | .b x=>by cases x<;>rfl
 | .i k n=>by
  show bc (uT k k) (fC n n) false=true;rw[cO,show uT k k=true from decide_eq_true rfl];simp[bc]
 | .s l=>by show o_ l l=true;rw[iK];simp
 | .p x o=>by show bc (Nat.beq x x) (Nat.beq o o) false=true;rw[Nat.beq_refl,Nat.beq_refl];rfl
 | .sl x l o n none=>by show bc (Nat.beq x x) (bc (Nat.beq l l) (bc (Nat.beq o o) (Nat.beq n n) false) false) false=true;rw[Nat.beq_refl,Nat.beq_refl,Nat.beq_refl,Nat.beq_refl];rfl
 | .sl x l o n (some c)=>by show bc (Nat.beq x x) (bc (Nat.beq l l) (bc (Nat.beq o o) (bc (Nat.beq n n) (Nat.beq c c) false) false) false) false=true;rw[Nat.beq_refl,Nat.beq_refl,Nat.beq_refl,Nat.beq_refl,Nat.beq_refl];rfl
 | .m x=>Nat.beq_refl x
 | .f g l=>by show bc (Nat.beq g g) (sU l l) false=true;rw[Nat.beq_refl,oO l];rfl
 | .y x=>Nat.beq_refl x
 | .yu t v=>by show bc (Nat.beq t t) (Gb v v) false=true;rw[Nat.beq_refl,wB v];rfl
 | .agg l=>oO l
 | .bV l=>oO l
 | .es a c=>by show bc (decide (a=a)) (Nat.beq c c) false=true;rw[decide_eq_true rfl,Nat.beq_refl];rfl
 | .k c=>Nat.beq_refl c
theorem oO:∀(l:List AV),sU l l=true
 |[]=>rfl
 |a::l=>by show bc (Gb a a) (sU l l) false=true;rw[wB a,oO l];rfl
end
def Fh(i:Nat):List Nat->List AV->Option (List AV)
 |[],_=>some []
 |k::ks,vs=>Aa (nv vs (i - 1 - k)) (Fh i ks vs)
theorem wC{i:Nat}:∀{ks:List Nat}{vs l:List AV},Fh i ks vs=some l->(I6 i ks).run vs=some l
 |[],vs,l,e=>e
 |k::ks,vs,l,e=>by
  rw[Fh]at e;cases h1:nv vs (i - 1 - k)with
  |none=>rw[h1]at e;cases e
  |some a=>
   cases h2:Fh i ks vs with
   |none=>rw[h1,h2]at e;cases e
   |some b=>
    rw[h1,h2]at e;cases e
    show bnd ((AY (i - 1 - k)).run vs) _=_;rw[iV,<-rF,h1];show bnd ((I6 i ks).run vs) _=_;rw[wC h2];rfl
def fE(w:Nat)(a k:Option AV):Option AV:=match a,k with
 |some (.sl b _ o m _),some (.i _ k)=>if 0<=k/\k<(m:Nat)then some (.p b (o+k.toNat*w))else none
 |_,_=>none
section
variable (P:Program) (Y:YT)
noncomputable def pI (i:MI)(h:AH)(F:Fm)(l:List AV):Option AV:=match i with
 | .bM w x ix=>fE w (ev x F l) (ev ix F l)
 |i=>pv P i h F l
theorem JW{i:MI}{f:FT}{h:AH}{n:Nat}{F:Fm}{l:List AV}{t:Tr AV}{v:AV}(e:pI P i h F l=some v)(hF:Fk t F):i.run P Y f t l h n= .ok v h n:=by
 unfold pI at e;split at e
 .unfold fE at e
  split at e
  .rename_i hx hk
   split at e
   .rename_i hr
    cases e
    obtain⟨k',rfl⟩:=Int.eq_ofNat_of_zero_le hr.1;simp only[MI.run,bD hF hx,bD hF hk];rename_i m _ _ _ _ _;show ok1 (bc (Nat.ble (Nat.succ k') _) _ none) h n=_;rw[Nat.ble_eq_true_of_le (by have:=hr.2;omega),bJ];rfl
   .cases e
  .cases e
 .exact PU P Y e hF
def NT(g:Option Bool)(v:Option AV):Option AV:=match g with
 |some true=>v
 |some false=>some (.bV [])
 |none=>none
noncomputable def GI (i:Nat)(o:MQ)(h:AH)(F:Fm)(vs:List AV):Option AV:=match Fh i o.ks vs with
 |some l=>NT (gO o.g F l) (pI P o.i h F l)
 |none=>none
noncomputable def msA (e:TypeId)(z:List AV)(x:Nat)(a c:Option AV):Option (AV×AO):=match a,c with
 |some (.i _ (.ofNat a)),some (.i _ (.ofNat c))=>if a<=c/\c<=1048576 then some (.sl x 0 0 a (some c),.row e (rep c z))else none
 |_,_=>none
noncomputable def NU (i:MI)(x:Nat)(F:Fm)(l:List AV):Option (AV×AO):=match i with
 | .al e z=>some (.p x 0,.row e z)
 | .box e w a=>(GA w (ev a F l)).map λc=>(.p x 0,.row e c)
 | .uE e len z fs=>(colE fs F l z).map λc=>(.sl x 0 0 len (some len),.row e c)
 | .Iq=>some (.m x,.mp [] 0)
 | .zR e z a c=>msA e z x (ev a F l) (ev c F l)
 |_=>none
structure DE where
 g:FuncId
 S:SK
 all:List MQ
 ck:List (Nat×Nat)
 wr:List (Nat×Tmp)
 s:List It
 Q:PQ
abbrev DK:=List MQ->Nat->Nat->Nat->FT->AH->Nat->List AV->List (Nat×AH)->Fm->Prop
def Dv(p:Nat):List (Nat×AH)->Option AH
 |[]=>none
 |x::l=>if x.1=p then some x.2 else Dv p l
def nq:List MQ->Nat->Option MQ
 |[],_=>none
 |a::_,0=>some a
 |_::l,k+1=>nq l k
noncomputable def NV (N:Nat)(F:Fm)(vs:List AV)(o:Option MQ)(H:Option AH)(v:Option AV):Prop:=match o,H,v with
 |some o,some H,some v=>o.k=1/\GI P N o H F vs=some v
 |_,_,_=>False
noncomputable def NW (all:List MQ)(F:Fm)(vs:List AV)(hs:List (Nat×AH)):List (Nat×Nat)->Prop
 |[]=>True
 |x::l=>NV P all.length F vs (nq all x.1) (Dv x.2 hs) (nv vs (all.length - 1 - x.1))/\NW all F vs hs l
def wr1(F:Fm)(k:Nat)(v:Option AV):Option Fm:=match v with
 |some v=>some (pt F k v)
 |none=>none
def GJ(i:Nat):List (Nat×Tmp)->List AV->Option Fm->Option Fm
 |[],_,F=>F
 |x::l,vs,F=>match F with
  |some F=>GJ i l vs (wr1 F x.2 (nv vs (i - 1 - x.1)))
  |none=>none
def dW(E:DE)(F:Option Fm)(f:FT)(h:AH)(n:Nat):Prop:=match F with
 |some F=>E.S E.s .bZ f h n F E.Q
 |none=>False
def dV(D:DK)(v:Option AV)(l:List MQ)(j r n0:Nat)(f:FT)(h:AH)(n:Nat)(vs:List AV)(hs:List (Nat×AH))(F:Fm):Prop:=match v with
 |some v=>D l (j+1) r n0 f h n (v::vs) hs F
 |none=>False
noncomputable def dA (D:DK)(b:Option Bool)(v:Option (AV×AO))(l:List MQ)(j r n0:Nat)(f:FT)(h:AH)(n:Nat)(vs:List AV)(hs:List (Nat×AH))(F:Fm):Prop:=match b,v with
 |some true,some v=>D l (j+1) (r+1) n0 f (h.set (n0+r) v.2) n (v.1::vs) hs F
 |some false,_=>D l (j+1) (r+1) n0 f h n (.bV []::vs) hs F
 |_,_=>False
noncomputable def dH (D:DK)(b:Nat)(a:Option AO)(l:List MQ)(j r n0:Nat)(f:FT)(h:AH)(n:Nat)(vs:List AV)(hs:List (Nat×AH))(F:Fm):Prop:=match a with
 |some a=>D l (j+1) r n0 f (h.set b a) n (.bV []::vs) ((j+1,h.set b a)::hs) F
 |none=>False
noncomputable def dT (D:DK)(a:Option AV)(u:Option (List AV))(l:List MQ)(j r n0:Nat)(f:FT)(h:AH)(n:Nat)(vs:List AV)(hs:List (Nat×AH))(F:Fm):Prop:=match a with
 |some (.p b o)=>dH D b (fu (h.get b) o u) l j r n0 f h n vs hs F
 |_=>False
def dF(D:DK)(g:Option AV)(c:Option (List AV))(l:List MQ)(j r n0:Nat)(f:FT)(h:AH)(n:Nat)(vs:List AV)(hs:List (Nat×AH))(F:Fm):Prop:=match g,c with
 |some (.f g cap),some c=>CW f g (c++cap) h n λv h n=>D l (j+1) r n0 f h n (v::vs) ((j+1,h)::hs) F
 |some (.y q),some c=>RW (Y q c f h n) λv h n=>D l (j+1) r n0 f h n (v::vs) ((j+1,h)::hs) F
 |_,_=>False
def dR(D:DK)(o:Option eH)(l:List MQ)(j r n0:Nat)(f:FT)(vs:List AV)(hs:List (Nat×AH))(F:Fm):Prop:=match o with
 |some (.ok v h n)=>D l (j+1) r n0 f h n (v::vs) ((j+1,h)::hs) F
 |_=>False
noncomputable def dX (D:DK)(i:MI)(u:List AV)(l:List MQ)(j r n0:Nat)(f:FT)(h:AH)(n:Nat)(vs:List AV)(hs:List (Nat×AH))(F:Fm):Prop:=match i with
 | .st w a x=>dT D (ev a F u) (GA w (ev x F u)) l j r n0 f h n vs hs F
 | .call g cs=>dF Y D (ev g F u) (evs cs F u) l j r n0 f h n vs hs F
 | .app e w x y=>dR D (Nz e w h n (ev x F u) (ev y F u)) l j r n0 f vs hs F
 | .Ns w x y=>dR D (Ri w h n (ev x F u) (ev y F u)) l j r n0 f vs hs F
 | .upd kt m k x=>dR D (Rj P kt h n (ev m F u) (ev k F u) (ev x F u)) l j r n0 f vs hs F
 |i=>∀t,Fk t F->RW (i.run P Y f t u h n) λv h n=>D l (j+1) r n0 f h n (v::vs) ((j+1,h)::hs) F
noncomputable def dG (D:DK)(b:Option Bool)(i:MI)(u:List AV)(l:List MQ)(j r n0:Nat)(f:FT)(h:AH)(n:Nat)(vs:List AV)(hs:List (Nat×AH))(F:Fm):Prop:=match b with
 |some true=>dX P Y D i u l j r n0 f h n vs hs F
 |some false=>D l (j+1) r n0 f h n (.bV []::vs) ((j+1,h)::hs) F
 |none=>False
noncomputable def d3 (D:DK)(u:Option (List AV))(o:MQ)(l:List MQ)(j r n0:Nat)(f:FT)(h:AH)(n:Nat)(vs:List AV)(hs:List (Nat×AH))(F:Fm):Prop:=match u with
 |some u=>dG P Y D (gO o.g F u) o.i u l j r n0 f h n vs hs F
 |none=>False
noncomputable def d2 (D:DK)(u:Option (List AV))(o:MQ)(l:List MQ)(j r n0:Nat)(f:FT)(h:AH)(n:Nat)(vs:List AV)(hs:List (Nat×AH))(F:Fm):Prop:=match u with
 |some u=>dA D (gO o.g F u) (NU o.i (n0+r) F u) l j r n0 f h n vs hs F
 |none=>False
noncomputable def dK (E:DE):Nat->DK
 |0=>λ_ _ _ _ _ _ _ _ _ _=>False
 |k+1=>λl j r n0 f h n vs hs F=>match l with
  |[]=>NW P E.all F vs hs E.ck/\dW E (GJ E.all.length E.wr vs (some F)) f h n
  |o::l=>match o.k with
   |3=>d3 P Y (dK E k) (Fh j o.ks vs) o l j r n0 f h n vs hs F
   |2=>d2 (dK E k) (Fh j o.ks vs) o l j r n0 f h n vs hs F
   |1=>(match o.r with
    |true=>dV (dK E k) (GI P j o h F vs) l j r n0 f h n vs hs F
    |false=>(match hs with|[]=>False|x::_=>dV (dK E k) (GI P j o x.2 F vs) l j r n0 f h n vs hs F))
   |0=>dV (dK E k) (GI P j o .z F vs) l j r n0 f h n vs hs F
   |_=>False
section
variable {P Y} {f:FT} {F:Fm} {t:Tr AV}
theorem Ac{i j:Nat}{o:MQ}{h:AH}{n:Nat}{vs:List AV}{v:AV}(hF:Fk t F)(hk:o.k=0\/o.k=1)(e:GI P i o (if o.k=0 then .z else h) F vs=some v):jS P Y i o f t j h n vs= .ok v h n:=by
 unfold GI at e;split at e
 case h_2=>cases e
 rename_i l hl;unfold NT at e;unfold jS;rcases hk with hk|hk<;>rw[hk]<;>(try dsimp only)<;>rw[wC hl]
 .rw[hk,if_pos rfl]at e
  split at e
  .rename_i hg
   show Ct (zU o.g t l) _ _=_;rw[pY hF hg];show MN (o.i.run P Y f t l .z 0) _=_;rw[JW P Y e hF];rfl
  .rename_i hg
   cases e
   show Ct (zU o.g t l) _ _=_;rw[pY hF hg];rfl
  .cases e
 .rw[hk,if_neg (by decide)]at e
  split at e
  .rename_i hg
   show Ct (zU o.g t l) _ _=_;rw[pY hF hg];show MN (o.i.run P Y f t l h 0) _=_;rw[JW P Y e hF];rfl
  .rename_i hg
   cases e
   show Ct (zU o.g t l) _ _=_;rw[pY hF hg];rfl
  .cases e
theorem Rt{i:MI}{x:Nat}{l:List AV}{v:AV×AO}(hF:Fk t F)(e:NU i x F l=some v):i.run P Y f t l .z x= .ok v.1 ((Tr.z:AH).set x v.2) (x+1):=by
 unfold NU at e;split at e
 .cases e;rfl
 .obtain⟨c,h1,rfl⟩:=Option.map_eq_some_iff.1 e
  obtain⟨v,h2,h3,h4⟩:=Fe h1;simp only[MI.run,bD hF h2,aP,h3,eu,h4,Nat.beq_refl,bJ];rfl
 .obtain⟨c,h1,rfl⟩:=Option.map_eq_some_iff.1 e
  simp only[MI.run,vG hF h1,aP];rfl
 .cases e;rfl
 .unfold msA at e
  split at e
  .rename_i h1 h2
   split at e
   .rename_i h3
    cases e
    simp only[MI.run,bD hF h1,bD hF h2];rw[Nat.ble_eq_true_of_le h3.1,bJ,Nat.ble_eq_true_of_le h3.2,bJ];rfl
   .cases e
  .cases e
 .cases e
theorem VA{D:DK}{i:MI}{u:List AV}{l:List MQ}{j r n0:Nat}{h:AH}{n:Nat}{vs:List AV}{hs:List (Nat×AH)}(hF:Fk t F)(e:dX P Y D i u l j r n0 f h n vs hs F):
 ∃v h' n',i.run P Y f t u h n= .ok v h' n'/\D l (j+1) r n0 f h' n' (v::vs) ((j+1,h')::hs) F:=by
 unfold dX at e;split at e
 .unfold dT at e
  split at e
  case h_2=>exact e.elim
  rename_i b o hb;unfold dH at e;split at e
  case h_2=>exact e.elim
  rename_i a ha;refine⟨_,_,_,?_,e⟩;unfold fu at ha;split at ha
  case h_2=>cases ha
  rename_i q1 q2 ty lo u h5 h6;split at ha
  case h_2=>cases ha
  cases ha
  obtain⟨v,h1,h2,h3⟩:=Fe h6;simp only[MI.run,bD hF hb,bD hF h1,aP];unfold vO;dsimp only;rw[h5];dsimp only;rw[h2];show bc (Nat.beq (lI u) _) (aP (sP u o lo) _) .bad=_;rw[eu,h3,Nat.beq_refl,bJ,wz ‹_›];rfl
 .unfold dF at e
  split at e
  .rename_i h1 h2
   obtain⟨v,h',n',e1,e2⟩:=e;refine⟨v,h',n',?_,e2⟩;simp only[MI.run,bD hF h1,tK hF h2,aP,iB,e1]
  .rename_i h1 h2
   obtain⟨v,h',n',e1,e2⟩:=e;refine⟨v,h',n',?_,e2⟩;simp only[MI.run,bD hF h1,tK hF h2,aP,e1]
  .exact e.elim
 .unfold dR Nz at e
  split at e
  case h_2=>exact e.elim
  rename_i ho;split at ho
  case h_2=>cases ho
  rename_i h1 h2;refine⟨_,_,_,?_,e⟩;simp only[MI.run,bD hF h1,bD hF h2,aP];exact Option.some.inj ho
 .unfold dR Ri at e
  split at e
  case h_2=>exact e.elim
  rename_i ho;split at ho
  case h_2=>cases ho
  rename_i h1 h2;refine⟨_,_,_,?_,e⟩;simp only[MI.run,bD hF h1,bD hF h2,aP];exact Option.some.inj ho
 .unfold dR Rj at e
  split at e
  case h_2=>exact e.elim
  rename_i ho;split at ho
  case h_2=>cases ho
  rename_i h1 h2 h3;refine⟨_,_,_,?_,e⟩;simp only[MI.run,bD hF h1,bD hF h2,bD hF h3,aP];exact Option.some.inj ho
 .exact e t hF
theorem Fj{p:Nat}:∀{hs:List (Nat×AH)},Ba p hs=Dv p hs
 |[]=>rfl
 |(q,h)::hs=>by rw[zM,Dv,Fj]
theorem PX:∀(l:List MQ)(k:Nat),nq l k=l[k]?
 |[],k=>by simp[nq]
 |a::l,0=>rfl
 |a::l,k+1=>by simp[nq,PX l k]
theorem JX{all:List MQ}{vs:List AV}{hs:List (Nat×AH)}(hF:Fk t F):∀{ck:List (Nat×Nat)},NW P all F vs hs ck->Q_ P Y all ck f t vs hs=true
 |[],_=>rfl
 |x::l,e=>by
  obtain⟨e0,e⟩:=e;unfold NV at e0;split at e0
  case h_2=>exact e0.elim
  rename_i o H v h1 h2 h3;obtain⟨h4,h5⟩:=e0;rw[PX]at h1;rw[Q_,JX hF e,h1];dsimp only;rw[Fj,h2,iV,<-rF,h3];dsimp only;have:jS P Y all.length o f t 0 H 0 vs= .ok v H 0:=Ac hF (.inr h4) (by rw[if_neg (by rw[h4];decide)];exact h5);rw[this];dsimp only;rw[wB];rfl
theorem JY{i:Nat}{vs:List AV}:∀{wr:List (Nat×Tmp)}{G:Fm},GJ i wr vs none=some G->False
 |[],_,e=>by cases e
 |_::_,_,e=>by cases e
theorem JZ{i:Nat}{vs:List AV}:∀{wr:List (Nat×Tmp)}{F G:Fm}{t:Tr AV},GJ i wr vs (some F)=some G->Fk t F->∃t',Gz i wr vs t=some t'/\Fk t' G
 |[],F,G,t,e,hF=>by cases e;exact⟨t,rfl,hF⟩
 |x::l,F,G,t,e,hF=>by
  rw[GJ]at e;cases hv:nv vs (i - 1 - x.1)with
  |none=>rw[hv]at e;exact(JY (show GJ i l vs none=some G from e)).elim
  |some v=>
   rw[hv]at e;obtain⟨t',h1,h2⟩:=JZ (show GJ i l vs (some (pt F x.2 v))=some G from e) (hF.put x.2 v);refine⟨t',?_,h2⟩;show bnd ((AY (i - 1 - x.1)).run vs) _=_;rw[iV,<-rF,hv];exact h1
theorem wD{E:DE}:∀(k:Nat){l:List MQ}{j r n0:Nat}{h:AH}{n:Nat}{vs:List AV}{hs:List (Nat×AH)},Fk t F->dK P Y E k l j r n0 f h n vs hs F->
 ∃h1 n1 vs1 hs1,tJ P Y l j r f t n0 h n vs hs= .ok h1 n1 vs1 hs1/\NW P E.all F vs1 hs1 E.ck/\dW E (GJ E.all.length E.wr vs1 (some F)) f h1 n1
 |0,l,j,r,n0,h,n,vs,hs,hF,e=>e.elim
 |k+1,[],j,r,n0,h,n,vs,hs,hF,e=>⟨_,_,_,_,rfl,e.1,e.2⟩
 |k+1,o::l,j,r,n0,h,n,vs,hs,hF,e=>by
  rw[tJ.eq_def];dsimp only;rw[dK]at e;dsimp only at e;have val:∀{H:AH}{v:Option AV},(∀v,GI P j o H F vs=some v->∃H' n',jS P Y j o f t 0 H n vs= .ok v H' n')->dV (dK P Y E k) (GI P j o H F vs) l j r n0 f h n vs hs F->
   ∃v H' n',jS P Y j o f t 0 H n vs= .ok v H' n'/\∃h1 n1 vs1 hs1,tJ P Y l (j+1) r f t n0 h n (v::vs) hs= .ok h1 n1 vs1 hs1/\NW P E.all F vs1 hs1 E.ck/\dW E (GJ E.all.length E.wr vs1 (some F)) f h1 n1:=by
   intro H _ q e;unfold dV at e;split at e
   .obtain⟨H',n',q⟩:=q _ ‹_›
    exact⟨_,_,_,q,wD k hF e⟩
   .exact e.elim
  split at e
  .rename_i hk
   simp only[hk];unfold d3 at e;split at e
   case h_2=>exact e.elim
   rename_i u hu;unfold dG at e;have hd:∀x,jS P Y j o f t x h n vs=Ct (zU o.g t u) (o.i.run P Y f t u h n) (.ok (.bV []) h n):=λx=>by
    unfold jS;rw[hk];try dsimp only
    rw[wC hu];rfl
   split at e
   .rename_i hg
    obtain⟨v,h',n',e1,e2⟩:=VA hF e;rw[hd,pY hF hg,e1];exact wD k hF e2
   .rename_i hg
    rw[hd,pY hF hg];exact wD k hF e
   .exact e.elim
  .rename_i hk
   simp only[hk];unfold d2 at e;split at e
   case h_2=>exact e.elim
   rename_i u hu;unfold dA at e;split at e
   .rename_i v hg hv
    have:jS P Y j o f t (Nat.add n0 r) h n vs= .ok v.1 (h.set (n0+r) v.2) n:=by
     unfold jS;rw[hk];try dsimp only
     rw[wC hu];show Ct (zU o.g t u) _ _=_;rw[pY hF hg];show MN (o.i.run P Y f t u .z (n0+r)) _=_;rw[Rt hF hv];show bc (Nat.beq (n0+r+1) (Nat.succ (n0+r))) (aP (((Tr.z:AH).set (n0+r) v.2).get (n0+r)) _) .bad=_;rw[Nat.beq_refl,aM];rfl
    rw[this];exact wD k hF e
   .rename_i hg
    have:jS P Y j o f t (Nat.add n0 r) h n vs= .ok (.bV []) h n:=by
     unfold jS;rw[hk];try dsimp only
     rw[wC hu];show Ct (zU o.g t u) _ _=_;rw[pY hF hg];rfl
    rw[this];exact wD k hF e
   .exact e.elim
  .rename_i hk
   simp only[hk];split at e
   .rename_i hr
    simp only[hr];obtain⟨v,H',n',e1,e2⟩:=val (v:=none) (λv hv=>⟨_,_,Ac hF (.inr hk) (by rw[if_neg (by rw[hk];decide)];exact hv)⟩) e;rw[e1];exact e2
   .rename_i hr
    simp only[hr];split at e
    .exact e.elim
    .rename_i x hs'
     obtain⟨v,H',n',e1,e2⟩:=val (v:=none) (λv hv=>⟨_,_,Ac hF (.inr hk) (by rw[if_neg (by rw[hk];decide)];exact hv)⟩) e;dsimp only;rw[e1];exact e2
  .rename_i hk
   simp only[hk];have e1:∃v,GI P j o .z F vs=some v/\dK P Y E k l (j+1) r n0 f h n (v::vs) hs F:=by
    unfold dV at e;split at e
    .exact⟨_,‹_›,e⟩
    .exact e.elim
   obtain⟨v,hv,e2⟩:=e1;have:jS P Y j o f t 0 h n vs= .ok v h n:=Ac hF (.inl hk) (by rw[if_pos hk];exact hv);rw[this];exact wD k hF e2
  .exact e.elim
theorem aD{g:FuncId}{K:Nat}{l:List MQ}{ck:List (Nat×Nat)}{wr:List (Nat×Tmp)}{s:List It}{h:AH}{n:Nat}{Q:PQ}(e:dK P Y ⟨g,sK P Y g 100000,l,ck,wr,s,Q⟩ 100000 l 0 0 n f h (n+K) [] [(0,h)] F):
 SM P Y g (.c (.fM K l ck wr)::s) .bZ f h n F Q:=by
 intro t hF;obtain⟨h1,n1,vs,hs,e1,e2,e3⟩:=wD 100000 hF e;unfold dW at e3;split at e3
 case h_2=>exact e3.elim
 rename_i G hG;obtain⟨t',w1,w2⟩:=JZ hG hF;obtain⟨x,h2,n2,t2,F2,g1,g2⟩:=nI _ _ _ _ _ _ _ _ e3 t' w2;refine⟨x,h2,n2,t2,F2,?_,g2⟩;rw[<-g1];show iH (Dl P Y K l ck wr f h n t) _=_;unfold Dl;rw[show tJ P Y l 0 0 f t n h (Nat.add n K) [] [(0,h)]= .ok h1 n1 vs hs from e1];dsimp only;rw[JX hF e2,bJ,w1];rfl
end
end
end
section
variable {P:Program} {Y:YT} {E:DE} {D:DK} {k j r n0:Nat} {b:Bool} {ks:List Nat} {g:Option (MO×Bool)} {i:MI} {l:List MQ} {f:FT} {h:AH} {n:Nat} {vs u:List AV} {hs:List (Nat×AH)} {F:Fm}
@[go_sem ↓] theorem aa8 {q:FuncId} {S:SK} {all:List MQ} {ck:List (Nat×Nat)} {wr:List (Nat×Tmp)} {s:List It} {Q:PQ}:dK P Y ⟨q,S,all,ck,wr,s,Q⟩ (k+1) [] j r n0 f h n vs hs F=(NW P all F vs hs ck/\dW ⟨q,S,all,ck,wr,s,Q⟩ (GJ all.length wr vs (some F)) f h n):=bH rfl
@[go_sem ↓] theorem ahR:dK P Y E (k+1) (⟨3,b,ks,g,i⟩::l) j r n0 f h n vs hs F=d3 P Y (dK P Y E k) (Fh j ks vs) ⟨3,b,ks,g,i⟩ l j r n0 f h n vs hs F:=bH rfl
@[go_sem ↓] theorem ahS:dK P Y E (k+1) (⟨2,b,ks,g,i⟩::l) j r n0 f h n vs hs F=d2 (dK P Y E k) (Fh j ks vs) ⟨2,b,ks,g,i⟩ l j r n0 f h n vs hs F:=bH rfl
@[go_sem ↓] theorem ahT:dK P Y E (k+1) (⟨1,true,ks,g,i⟩::l) j r n0 f h n vs hs F=dV (dK P Y E k) (GI P j ⟨1,true,ks,g,i⟩ h F vs) l j r n0 f h n vs hs F:=bH rfl
@[go_sem ↓] theorem afp {x:Nat×AH}:dK P Y E (k+1) (⟨1,false,ks,g,i⟩::l) j r n0 f h n vs (x::hs) F=dV (dK P Y E k) (GI P j ⟨1,false,ks,g,i⟩ x.2 F vs) l j r n0 f h n vs (x::hs) F:=bH rfl
@[go_sem ↓] theorem ahU:dK P Y E (k+1) (⟨0,b,ks,g,i⟩::l) j r n0 f h n vs hs F=dV (dK P Y E k) (GI P j ⟨0,b,ks,g,i⟩ .z F vs) l j r n0 f h n vs hs F:=bH rfl
@[go_sem] theorem ahV {o:MQ}:d3 P Y D (some u) o l j r n0 f h n vs hs F=dG P Y D (gO o.g F u) o.i u l j r n0 f h n vs hs F:=bH rfl
@[go_sem] theorem ahW {o:MQ}:d2 D (some u) o l j r n0 f h n vs hs F=dA D (gO o.g F u) (NU o.i (n0+r) F u) l j r n0 f h n vs hs F:=bH rfl
def Iw(w:Bool)(a:Option AV):Option Bool:=match a with|some (.b x)=>some (w==x)|some (.bV _)=>some false|_=>none
@[go_sem] theorem afq {w:Bool} {c:List AV}:Iw w (some (.bV c))=some false:=rfl
@[go_sem] theorem aa9:Iw true (some (.b true))=some true:=rfl
@[go_sem] theorem aa_:Iw true (some (.b false))=some false:=rfl
@[go_sem] theorem abb:Iw false (some (.b true))=some false:=rfl
@[go_sem] theorem abd:Iw false (some (.b false))=some true:=rfl
@[go_sem] theorem ahX:gO none F u=some true:=rfl
@[go_sem] theorem ahY {x:MO} {w:Bool}:gO (some (x,w)) F u=Iw w (ev x F u):=rfl
@[go_sem] theorem ahZ:dG P Y D (some true) i u l j r n0 f h n vs hs F=dX P Y D i u l j r n0 f h n vs hs F:=bH rfl
@[go_sem] theorem ah0:dG P Y D (some false) i u l j r n0 f h n vs hs F=D l (j+1) r n0 f h n (.bV []::vs) ((j+1,h)::hs) F:=bH rfl
@[go_sem ↓] theorem afr {w:Nat} {a x:MO}:dX P Y D (.st w a x) u l j r n0 f h n vs hs F=dT D (ev a F u) (GA w (ev x F u)) l j r n0 f h n vs hs F:=bH rfl
@[go_sem ↓] theorem abe {e w:Nat} {x y:MO}:dX P Y D (.app e w x y) u l j r n0 f h n vs hs F=dR D (Nz e w h n (ev x F u) (ev y F u)) l j r n0 f vs hs F:=bH rfl
@[go_sem ↓] theorem abf {w:Nat} {x y:MO}:dX P Y D (.Ns w x y) u l j r n0 f h n vs hs F=dR D (Ri w h n (ev x F u) (ev y F u)) l j r n0 f vs hs F:=bH rfl
@[go_sem ↓] theorem abg {kt:TypeId} {m k x:MO}:dX P Y D (.upd kt m k x) u l j r n0 f h n vs hs F=dR D (Rj P kt h n (ev m F u) (ev k F u) (ev x F u)) l j r n0 f vs hs F:=bH rfl
@[go_sem] theorem abh {v:AV}:dR D (some (.ok v h n)) l j r n0 f vs hs F=D l (j+1) r n0 f h n (v::vs) ((j+1,h)::hs) F:=bH rfl
@[go_sem ↓] theorem Zm {q:MO} {cs:List MO}:dX P Y D (.call q cs) u l j r n0 f h n vs hs F=dF Y D (ev q F u) (evs cs F u) l j r n0 f h n vs hs F:=bH rfl
@[go_sem] theorem ah1 {x o:Nat} {c:Option (List AV)}:dT D (some (.p x o)) c l j r n0 f h n vs hs F=dH D x (fu (h.get x) o c) l j r n0 f h n vs hs F:=bH rfl
@[go_sem] theorem ah2 {x:Nat} {a:AO}:dH D x (some a) l j r n0 f h n vs hs F=D l (j+1) r n0 f (h.set x a) n (.bV []::vs) ((j+1,h.set x a)::hs) F:=bH rfl
theorem GK{q:FuncId}{cap c:List AV}:dF Y D (some (.f q cap)) (some c) l j r n0 f h n vs hs F=CW f q (c++cap) h n λv h n=>D l (j+1) r n0 f h n (v::vs) ((j+1,h)::hs) F:=rfl
@[go_sem] theorem ah3 {v:AV}:dV D (some v) l j r n0 f h n vs hs F=D l (j+1) r n0 f h n (v::vs) hs F:=bH rfl
@[go_sem] theorem ah4 {v:AV} {o:AO}:dA D (some true) (some (v,o)) l j r n0 f h n vs hs F=D l (j+1) (r+1) n0 f (h.set (n0+r) o) n (v::vs) hs F:=bH rfl
@[go_sem] theorem ah5 {v:Option (AV×AO)}:dA D (some false) v l j r n0 f h n vs hs F=D l (j+1) (r+1) n0 f h n (.bV []::vs) hs F:=by cases v<;>rfl
@[go_sem] theorem abj {e:TypeId} {z:List AV} {x:Nat}:NU (.al e z) x F u=some (.p x 0,.row e z):=rfl
@[go_sem] theorem Zn {e w:Nat} {a:MO} {x:Nat}:NU (.box e w a) x F u=(GA w (ev a F u)).map λc=>(.p x 0,.row e c):=rfl
@[go_sem] theorem Zo {e len:Nat} {z:List AV} {fs:List (Nat×Nat×MO)} {x:Nat}:NU (.uE e len z fs) x F u=(colE fs F u z).map λc=>(.sl x 0 0 len (some len),.row e c):=rfl
@[go_sem] theorem Zp {x:Nat}:NU .Iq x F u=some (.m x,.mp [] 0):=rfl
noncomputable def dvL (P:Program)(u:Option (List AV))(g:Option (MO×Bool))(i:MI)(h:AH)(F:Fm):Option AV:=match u with
 |some l=>NT (gO g F l) (pI P i h F l)
 |none=>none
@[go_sem] theorem afs {N k:Nat}:GI P N ⟨k,b,ks,g,i⟩ h F vs=dvL P (Fh N ks vs) g i h F:=rfl
@[go_sem] theorem aft:dvL P (some u) g i h F=NT (gO g F u) (pI P i h F u):=rfl
@[go_sem] theorem afu {v:Option AV}:NT (some true) v=v:=rfl
@[go_sem] theorem afv {v:Option AV}:NT (some false) v=some (.bV []):=rfl
@[go_sem] theorem afw {N:Nat}:Fh N [] vs=some []:=rfl
@[go_sem] theorem afx {N k:Nat}:Fh N (k::ks) vs=Aa (nv vs (N - 1 - k)) (Fh N ks vs):=rfl
@[go_sem] theorem afy {all:List MQ}:NW P all F vs hs []=True:=bH rfl
@[go_sem] theorem afz {all:List MQ} {a p:Nat} {c:List (Nat×Nat)}:NW P all F vs hs ((a,p)::c)=(NV P all.length F vs (nq all a) (Dv p hs) (nv vs (all.length - 1 - a))/\NW P all F vs hs c):=bH rfl
@[go_sem] theorem abl {N:Nat} {H:AH} {v:AV}:NV P N F vs (some ⟨1,b,ks,g,i⟩) (some H) (some v)=(dvL P (Fh N ks vs) g i H F=some v):=by
 show(1=1/\_)=_;simp only[true_and];rfl
@[go_sem] theorem ah6 {a:MQ} {l:List MQ}:nq (a::l) 0=some a:=rfl
@[go_sem] theorem ah7 {a:MQ} {l:List MQ} {k:Nat}:nq (a::l) (k+1)=nq l k:=rfl
@[go_sem] theorem abm {p q:Nat} {H:AH}:Dv p ((q,H)::hs)=if q=p then some H else Dv p hs:=rfl
@[go_sem] theorem afA {N:Nat} {o:Option Fm}:GJ N [] vs o=o:=by cases o<;>rfl
@[go_sem] theorem afB {N a:Nat} {d:Tmp} {c:List (Nat×Tmp)}:GJ N ((a,d)::c) vs (some F)=GJ N c vs (wr1 F d (nv vs (N - 1 - a))):=rfl
@[go_sem] theorem afC {d:Nat} {v:AV}:wr1 F d (some v)=some (pt F d v):=rfl
@[go_sem] theorem ah8 {q:FuncId} {S:SK} {all:List MQ} {ck:List (Nat×Nat)} {wr:List (Nat×Tmp)} {s:List It} {Q:PQ} {G:Fm}:dW ⟨q,S,all,ck,wr,s,Q⟩ (some G) f h n=S s .bZ f h n G Q:=bH rfl
@[go_sem] theorem abn {x:MO}:pI P (.mv x) h F u=ev x F u:=rfl
@[go_sem] theorem VB {c a b:MO}:pI P (.pick c a b) h F u=mM (ev c F u) (ev a F u) (ev b F u):=rfl
@[go_sem] theorem Zq {z:List AV} {fs:List (Nat×Nat×MO)}:pI P (.jH z fs) h F u=(colE fs F u z).map .agg:=rfl
@[go_sem] theorem abo {w:Option Nat} {a:MO}:pI P (.ld w a) h F u=PS h (ev a F u) w:=rfl
@[go_sem] theorem Zr {op:BinOp} {ty:TypeId} {x y:MO}:pI P (.bin op ty x y) h F u=Vh P op ty (ev x F u) (ev y F u):=rfl
@[go_sem] theorem Zt {x:MO}:pI P (.not x) h F u=JE (ev x F u):=rfl
@[go_sem] theorem abp {o:Nat} {x:MO}:pI P (.fa o x) h F u=U_ o (ev x F u):=rfl
@[go_sem] theorem Zu {w:Option Nat} {o:Nat} {x:MO}:pI P (.T_ w o x) h F u=JF w o (ev x F u):=rfl
@[go_sem] theorem Zv {ty:TypeId} {x:MO}:pI P (.T9 ty x) h F u=(ev x F u).map (.yu ty):=rfl
@[go_sem] theorem Zw {q:FuncId} {cs:List MO}:pI P (.AQ q cs) h F u=(evs cs F u).map (.f q):=rfl
@[go_sem] theorem Zx {x:MO} {k:Nat}:pI P (.ext x k) h F u=JG k (ev x F u):=rfl
@[go_sem] theorem VD {x:MO}:pI P (.Gx x) h F u=Va (ev x F u):=rfl
@[go_sem] theorem VE {x:MO}:pI P (.bf x) h F u=Iu (ev x F u):=rfl
@[go_sem] theorem Zy {x:MO}:pI P (.neg x) h F u=Vb (ev x F u):=rfl
@[go_sem] theorem Zz {x:MO} {k:IntKind}:pI P (.Bw k x) h F u=Vd k (ev x F u):=rfl
@[go_sem] theorem ZA {x:MO}:pI P (.TY x) h F u=Ve (ev x F u):=rfl
@[go_sem] theorem ZB {x:MO}:pI P (.gI x) h F u=Dm (ev x F u):=rfl
@[go_sem] theorem ZC {w:Nat} {x:MO} {lo hi:Option MO}:pI P (.Q8 w x lo hi) h F u=Vf w (ev x F u) (xK lo F u) (xK hi F u):=rfl
@[go_sem] theorem VF {kt:TypeId} {z:Option AV} {x k:MO} {ok:Bool}:pI P (.look kt z x k ok) h F u=Ub P kt z ok h (ev x F u) (ev k F u):=rfl
@[go_sem] theorem ZE {w m:Nat} {x k:MO}:pI P (.Nr w m x k) h F u=JH w m (ev x F u) (ev k F u):=rfl
@[go_sem] theorem ZF {x k:MO}:pI P (.yF x k) h F u=JI (ev x F u) (ev k F u):=rfl
@[go_sem] theorem ZG {w m:Nat} {x:MO} {lo hi:Option MO}:pI P (.Jt w m x lo hi) h F u=GD w m (ev x F u) (xK lo F u) (xK hi F u):=rfl
@[go_sem] theorem ZH {x:MO} {lo hi:Option MO}:pI P (.PI x lo hi) h F u=Vg (ev x F u) (xK lo F u) (xK hi F u):=rfl
@[go_sem] theorem VG {x:MO}:pI P (.Gy x) h F u=Yw h (ev x F u):=rfl
@[go_sem] theorem ZI {x:MO}:pI P (.Gw x) h F u=Rc h (ev x F u):=rfl
@[go_sem] theorem abq {x y:MO}:pI P (.mx x y) h F u=Yx (ev x F u) (ev y F u):=rfl
@[go_sem] theorem abr {x y:MO}:pI P (.mn x y) h F u=Yy (ev x F u) (ev y F u):=rfl
@[go_sem] theorem ZJ {w:Nat} {x k:MO}:pI P (.bM w x k) h F u=fE w (ev x F u) (ev k F u):=rfl
end
section
variable {F:Fm} {l c:List AV}
def Ru(r:List (Nat×Nat×MO))(F:Fm)(l:List AV)(c:Option (List AV)):Option (List AV):=match c with
 |some c=>colE r F l c
 |none=>none
def spS(u:Option (List AV))(o:Nat)(c:List AV):Option (List AV):=match u with
 |some u=>pG u o c
 |none=>none
@[go_sem] theorem abu:colE [] F l c=some c:=rfl
@[go_sem] theorem abv {o w:Nat} {x:MO} {r:List (Nat×Nat×MO)}:colE ((o,w,x)::r) F l c=Ru r F l (spS (GA w (ev x F l)) o c):=by
 rw[colE];unfold Ru spS GA;cases ev x F l with
 |none=>rfl
 |some v=>
  dsimp only;cases pQ v with
  |none=>rfl
  |some u=>
   dsimp only;by_cases h:u.length=w
   .rw[if_pos h,if_pos h];dsimp only;cases pG u o c<;>rfl
   .rw[if_neg h,if_neg h]
@[go_sem] theorem abw {r:List (Nat×Nat×MO)}:Ru r F l (some c)=colE r F l c:=rfl
@[go_sem] theorem afD {u:List AV} {o:Nat}:spS (some u) o c=pG u o c:=rfl
end
def iD(ty i L c B B1:Nat)(body:MC):MC:=.loop (.seq (.reg [⟨none,.bin .lss ty (.s i) (.s L),.k c⟩]) (.seq (.cond (.s c) .skip (.exit B)) (.seq (.blk B1 body) (.reg [⟨none,.bin .add ty (.s i) (.c (.i .i64 1)),.l⟩,⟨none,.mv (.v 0),.k i⟩]))))
section
variable {P:Program} {Y:YT} {g:FuncId} {f:FT}
def Ui(P:Program)(Y:YT)(g:FuncId)(I:Nat->AH->Nat->Fm->Prop)(k i L N B1:Nat)(s:List It)(f:FT)(Q:PQ):PQ:=λx h n F=>match x with
 | .bZ=>lk F i=some (.i .i64 (k:Nat))/\lk F L=some (.i .i64 (N:Nat))/\∃G,I (k+1) h n G/\∀m v,lk G m=some v->lk F m=some v
 | .exit j=>if j=B1 then lk F i=some (.i .i64 (k:Nat))/\lk F L=some (.i .i64 (N:Nat))/\∃G,I (k+1) h n G/\∀m v,lk G m=some v->lk F m=some v else sK P Y g 100000 s (.exit j) f h n F Q
 |x=>sK P Y g 100000 s x f h n F Q
theorem dD{ty i L c B B1:Nat}{body:MC}{s:List It}{Q:PQ}{h:AH}{n:Nat}{F:Fm}(N:Nat)(I:Nat->AH->Nat->Fm->Prop)(hN:N<=1125899906842623)(hic:i≠c)(hLc:L≠c)(hiL:i≠L)
 (hfr:∀k h n G,I k h n G->lk G c=none/\lk G i=none)
 (h0:lk F i=some (.i .i64 0)/\lk F L=some (.i .i64 (N:Nat))/\∃G,I 0 h n G/\∀m v,lk G m=some v->lk F m=some v)
 (step:∀k h n G,k<N->I k h n G->sK P Y g 100000 [.c body] .bZ f h n (pt (pt G L (.i .i64 (N:Nat))) i (.i .i64 (k:Nat))) (Ui P Y g I k i L N B1 s f Q))
 (fin:∀h n G,I N h n G->sK P Y g 100000 s (.exit B) f h n G Q):SM P Y g (.c (iD ty i L c B B1 body)::s) .bZ f h n F Q:=by
 refine Bz (λm h n F=>∃k,k<=N/\m=N - k/\lk F i=some (.i .i64 (k:Nat))/\lk F L=some (.i .i64 (N:Nat))/\∃G,I k h n G/\∀m v,lk G m=some v->lk F m=some v) N hN ⟨F,⟨0,Nat.zero_le _,rfl,h0⟩,λ_ _ e=>e⟩ ?_;rintro m h n F ⟨k,hk,rfl,e1,e2,G,hI,hG⟩ t hF;obtain⟨f1,f2⟩:=hfr k h n G hI;have t1:=hF i _ e1;have t2:=hF L _ e2;have r1:(MC.reg [⟨none,.bin .lss ty (.s i) (.s L),.k c⟩]).run P Y g f h n t= .ok .bZ h n ((pp 20 c).run (.b (decide ((k:Int)<(N:Int)))) t):=by
  show nH P Y _ f h n t []=_;rw[nH];show lK (aP ((gp 20 i).run t) λx=>aP ((gp 20 L).run t) λy=>ok1 ((dS P ty .lss).run x y) h n) _=_;rw[jQ,t1];show lK (aP ((gp 20 L).run t) λy=>ok1 ((dS P ty .lss).run _ y) h n) _=_;rw[jQ,t2];show lK (ok1 ((dS P ty .lss).run (.i .i64 k) (.i .i64 N)) h n) _=_;rw[NR];rfl
 have gc:∀t0:Tr AV,gD (.s c) ((pp 20 c).run (.b (decide ((k:Int)<(N:Int)))) t0) []=some (.b (decide ((k:Int)<(N:Int)))):=λt0=>by
  show(gp 20 c).run _=_;rw[jQ,iO,if_pos rfl]
 have hG1:Fk ((pp 20 c).run (.b (decide ((k:Int)<(N:Int)))) t) G:=λm v e=>by
  rw[iO,if_neg (λe0=>by rw[e0,f1]at e;cases e)];exact hF m v (hG m v e)
 have out:∀r:eO,(MC.seq (.reg [⟨none,.bin .lss ty (.s i) (.s L),.k c⟩]) (.seq (.cond (.s c) .skip (.exit B)) (.seq (.blk B1 body) (.reg [⟨none,.bin .add ty (.s i) (.c (.i .i64 1)),.l⟩,⟨none,.mv (.v 0),.k i⟩])))).run P Y g f h n t=r->
  iH ((MC.seq (.reg [⟨none,.bin .lss ty (.s i) (.s L),.k c⟩]) (.seq (.cond (.s c) .skip (.exit B)) (.seq (.blk B1 body) (.reg [⟨none,.bin .add ty (.s i) (.c (.i .i64 1)),.l⟩,⟨none,.mv (.v 0),.k i⟩])))).run P Y g f h n t) (λx h n t=>lZ P Y g [] x f h n t)=r:=λr e=>by
  rw[e];cases r<;>rfl
 by_cases hlt:k<N
 .have hd:decide ((k:Int)<(N:Int))=true:=decide_eq_true (by omega)
  have hF2:Fk ((pp 20 c).run (.b (decide ((k:Int)<(N:Int)))) t) (pt (pt G L (.i .i64 (N:Nat))) i (.i .i64 (k:Nat))):=λm v e=>by
   rw[fD,fD]at e;split at e
   .cases e;subst_vars;rw[iO,if_neg hic];exact t1
   .split at e
    .cases e;subst_vars;rw[iO,if_neg hLc];exact t2
    .exact hG1 m v e
  obtain⟨x,h1,n1,t3,F3,b1,b2,b3⟩:=nI _ _ _ _ _ _ _ _ (step k h n G hlt hI) _ hF2;obtain⟨x0,h0',YA,t0',b0,b1⟩:=iP (show iH (body.run P Y g f h n _) (λx h n t=>lZ P Y g [] x f h n t)= .ok x h1 n1 t3 from b1);cases b1
  have head:∀r:eO,iH (iH (body.run P Y g f h n ((pp 20 c).run (.b (decide ((k:Int)<(N:Int)))) t)) λx h n t=>match x with
   | .exit j=>bc (Nat.beq j B1) (.ok .bZ h n t) (.ok (.exit j) h n t)
   |x=>.ok x h n t) (λx h n t=>AX x ((MC.reg [⟨none,.bin .add ty (.s i) (.c (.i .i64 1)),.l⟩,⟨none,.mv (.v 0),.k i⟩]).run P Y g f h n t) (.ok x h n t))=r->
   (MC.seq (.reg [⟨none,.bin .lss ty (.s i) (.s L),.k c⟩]) (.seq (.cond (.s c) .skip (.exit B)) (.seq (.blk B1 body) (.reg [⟨none,.bin .add ty (.s i) (.c (.i .i64 1)),.l⟩,⟨none,.mv (.v 0),.k i⟩])))).run P Y g f h n t=r:=λr e=>by
   rw[<-e];show iH ((MC.reg _).run P Y g f h n t) _=_;rw[r1];show iH (match gD (.s c) _ []with|some (.b x)=>bc x (eO.ok .bZ h n _) (.ok (.exit B) h n _)|_=>.bad) _=_;rw[gc,hd];rfl
  rw[b0]at head
  -- the next round
  have next:(lk F3 i=some (.i .i64 (k:Nat))/\lk F3 L=some (.i .i64 (N:Nat))/\∃G,I (k+1) h1 n1 G/\∀m v,lk G m=some v->lk F3 m=some v)->
   (MC.reg [⟨none,.bin .add ty (.s i) (.c (.i .i64 1)),.l⟩,⟨none,.mv (.v 0),.k i⟩]).run P Y g f h1 n1 t3= .ok .bZ h1 n1 ((pp 20 i).run (.i .i64 ((k+1:Nat):Int)) t3)/\Fk ((pp 20 i).run (.i .i64 ((k+1:Nat):Int)) t3) (pt F3 i (.i .i64 ((k+1:Nat):Int)))/\
    Uf P Y g (λm h n F=>∃k,k<=N/\m=N - k/\lk F i=some (.i .i64 (k:Nat))/\lk F L=some (.i .i64 (N:Nat))/\∃G,I k h n G/\∀m v,lk G m=some v->lk F m=some v) (N - k) s f Q .bZ h1 n1 (pt F3 i (.i .i64 ((k+1:Nat):Int))):=by
   rintro⟨c1,c2,G',c3,c4⟩;refine⟨?_,b2.put _ _,⟨N - (k+1),_,by omega,⟨k+1,by omega,rfl,by rw[fD,if_pos rfl],by rw[fD,if_neg (λe=>hiL e.symm)];exact c2,G',c3,λm v e=>?_⟩,λ_ _ e=>e⟩⟩
   .show nH P Y _ f h1 n1 t3 []=_
    rw[nH];show lK (aP ((gp 20 i).run t3) λx=>aP (some (AV.i .i64 1)) λy=>ok1 ((dS P ty .add).run x y) h1 n1) _=_;rw[jQ,b2 i _ c1];show lK (ok1 ((dS P ty .add).run (.i .i64 k) (.i .i64 1)) h1 n1) _=_;rw[NS,dN (by omega) (by omega)];rfl
   .rw[fD,if_neg (λe0=>by rw[e0,(hfr _ _ _ _ c3).2]at e;cases e)]
    exact c4 m v e
  cases x with
  |bZ=>
   obtain⟨n1',n2,n3⟩:=next b3;refine⟨_,_,_,_,_,out _ (head _ ?_),n2,n3⟩;exact n1'
  |exit j=>
   by_cases hj:j=B1
   .obtain⟨n1',n2,n3⟩:=next (by have b3:(if j=B1 then _ else _):=b3;rw[if_pos hj]at b3;exact b3)
    refine⟨_,_,_,_,_,out _ (head _ ?_),n2,n3⟩;show iH (bc (Nat.beq j B1) (eO.ok .bZ h1 n1 t3) (.ok (.exit j) h1 n1 t3)) _=_;rw[hj,Nat.beq_refl];exact n1'
   .refine⟨.exit j,h1,n1,_,F3,out _ (head _ ?_),b2,?_⟩
    .show iH (bc (Nat.beq j B1) (eO.ok .bZ h1 n1 t3) (.ok (.exit j) h1 n1 t3)) _=_
     have:Nat.beq j B1=false:=by
      cases e:Nat.beq j B1 with
      |false=>rfl
      |true=>exact absurd (beq_eq e) hj
     rw[this];rfl
    .have b3:(if j=B1 then _ else sK P Y g 100000 s (.exit j) f h1 n1 F3 Q):=b3
     rw[if_neg hj]at b3;exact b3
  |goto j=>exact⟨.goto j,h1,n1,_,F3,out _ (head _ rfl),b2,b3⟩
  |ret=>exact⟨.ret,h1,n1,_,F3,out _ (head _ rfl),b2,b3⟩
 .obtain rfl:k=N:=by omega
  have hd:decide ((k:Int)<(k:Int))=false:=by simp
  refine⟨.exit B,h,n,_,G,out _ ?_,hG1,fin h n G hI⟩;show iH ((MC.reg _).run P Y g f h n t) _=_;rw[r1];show iH (match gD (.s c) _ []with|some (.b x)=>bc x (eO.ok .bZ h n _) (.ok (.exit B) h n _)|_=>.bad) _=_;rw[gc,hd];rfl
end
end Go.Proofs.YtjoohkjmoghmoaaGreatDoor

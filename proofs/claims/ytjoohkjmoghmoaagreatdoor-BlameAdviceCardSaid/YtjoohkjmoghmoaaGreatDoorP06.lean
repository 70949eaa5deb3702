/- part -/
import Derived.Test.YtjoohkjmoghmoaaGreatDoorP05
set_option linter.all false
namespace Go.Proofs.YtjoohkjmoghmoaaGreatDoor
section
section
variable {P:Program} {Y:YT} {g:FuncId} {f:FT} {h:AH} {n k:Nat} {F:Fm} {l:List AV} {s:List It} {r:List MR} {Q:PQ} {S:SK} {d:MD} {x:Ex}
@[go_sem ↓] theorem ade:sK P Y g (k+1) [] x f h n F Q=Q x h n F:=bD rfl
@[go_sem ↓] theorem akH {id:Nat}:sK P Y g (k+1) (.b id::s) x f h n F Q=sK P Y g k s (Ub x id) f h n F Q:=bD rfl
@[go_sem ↓] theorem aa5:sK P Y g (k+1) (.c .skip::s) .bW f h n F Q=sK P Y g k s .bW f h n F Q:=bD rfl
@[go_sem ↓] theorem adf:sK P Y g (k+1) (.c (.reg r)::s) .bW f h n F Q=sK P Y g k (.r r []::s) .bW f h n F Q:=bD rfl
@[go_sem ↓] theorem adg {a b:MC}:sK P Y g (k+1) (.c (.seq a b)::s) .bW f h n F Q=sK P Y g k (.c a:: .c b::s) .bW f h n F Q:=bD rfl
@[go_sem ↓] theorem aa6 {c:MO} {a b:MC}:sK P Y g (k+1) (.c (.cond c a b)::s) .bW f h n F Q=kB (sK P Y g k) (ev c F []) a b s f h n F Q:=bD rfl
@[go_sem ↓] theorem adh {id:Nat} {a:MC}:sK P Y g (k+1) (.c (.blk id a)::s) .bW f h n F Q=sK P Y g k (.c a:: .b id::s) .bW f h n F Q:=bD rfl
@[go_sem ↓] theorem aa7 {id:Nat}:sK P Y g (k+1) (.c (.exit id)::s) .bW f h n F Q=sK P Y g k s (.exit id) f h n F Q:=bD rfl
@[go_sem ↓] theorem adi:sK P Y g (k+1) (.c .ret::s) .bW f h n F Q=sK P Y g k s .ret f h n F Q:=bD rfl
@[go_sem ↓] theorem aa8 {a:MC}:sK P Y g (k+1) (.c (.loop a)::s) .bW f h n F Q=SM P Y g (.c (.loop a)::s) .bW f h n F Q:=bD rfl
@[go_sem ↓] theorem adj {a:MO} {b:List Tmp} {c d:Code}:sK P Y g (k+1) (.c (.rng a b c d)::s) .bW f h n F Q=SM P Y g (.c (.rng a b c d)::s) .bW f h n F Q:=bD rfl
@[go_sem ↓] theorem adk {a:Nat} {b:List MQ} {c:List (Nat×Nat)} {d:List (Nat×Tmp)}:sK P Y g (k+1) (.c (.yM a b c d)::s) .bW f h n F Q=SM P Y g (.c (.yM a b c d)::s) .bW f h n F Q:=bD rfl
@[go_sem ↓] theorem ahf {id:Nat} {m:MC}:sK P Y g (k+1) (.c m::s) (.exit id) f h n F Q=sK P Y g k s (.exit id) f h n F Q:=bD rfl
@[go_sem ↓] theorem ahg {m:MC}:sK P Y g (k+1) (.c m::s) .ret f h n F Q=sK P Y g k s .ret f h n F Q:=bD rfl
@[go_sem ↓] theorem ahh:sK P Y g (k+1) (.r [] l::s) x f h n F Q=sK P Y g k s x f h n F Q:=bD rfl
@[go_sem ↓] theorem ahi {i:MI}:sK P Y g (k+1) (.r (⟨none,i,d⟩::r) l::s) .bW f h n F Q=jw P Y (sK P Y g k) i d r l s f h n F Q:=bD rfl
def kW(P:Program)(Y:YT)(S:SK)(o:Option AV)(w:Bool)(i:MI)(d:MD)(r:List MR)(l:List AV)(s:List It)(f:FT)(h:AH)(n:Nat)(F:Fm)(Q:PQ):Prop:=match o with
 |some (.b x)=>kG S (some (w==x)) i d r l s f h n F Q (jw P Y)
 |some (.bN _)=>mV S d (.bN []) r l s f h n F Q
 |_=>False
@[go_sem ↓] theorem ahj {a:MO} {w:Bool} {i:MI}:sK P Y g (k+1) (.r (⟨some (a,w),i,d⟩::r) l::s) .bW f h n F Q=kW P Y (sK P Y g k) (ev a F l) w i d r l s f h n F Q:=by
 show kG (sK P Y g k) (gO (some (a,w)) F l) i d r l s f h n F Q (jw P Y)=_;unfold gO kW;dsimp only;cases ev a F l with
 |none=>rfl
 |some v=>cases v<;>rfl
@[go_sem] theorem akI {i:MI} {w:Bool} {c:List AV}:kW P Y S (some (.bN c)) w i d r l s f h n F Q=mV S d (.bN []) r l s f h n F Q:=bD rfl
@[go_sem] theorem ahk {i:MI}:kW P Y S (some (.b true)) true i d r l s f h n F Q=jw P Y S i d r l s f h n F Q:=bD rfl
@[go_sem] theorem ahl {i:MI}:kW P Y S (some (.b false)) false i d r l s f h n F Q=jw P Y S i d r l s f h n F Q:=bD rfl
@[go_sem] theorem ahm {i:MI}:kW P Y S (some (.b true)) false i d r l s f h n F Q=mV S d (.bN []) r l s f h n F Q:=bD rfl
@[go_sem] theorem ahn {i:MI}:kW P Y S (some (.b false)) true i d r l s f h n F Q=mV S d (.bN []) r l s f h n F Q:=bD rfl
@[go_sem] theorem akJ {a b:MC}:kB S (some (.b true)) a b s f h n F Q=S (.c a::s) .bW f h n F Q:=bD rfl
@[go_sem] theorem akK {a b:MC}:kB S (some (.b false)) a b s f h n F Q=S (.c b::s) .bW f h n F Q:=bD rfl
@[go_sem] theorem aho {v:AV}:mV S .n v r l s f h n F Q=S (.r r l::s) .bW f h n F Q:=bD rfl
@[go_sem] theorem ahp {v:AV}:mV S .l v r l s f h n F Q=S (.r r (v::l)::s) .bW f h n F Q:=bD rfl
def kP(S:SK)(G:Fm)(r:List MR)(l:List AV)(s:List It)(f:FT)(h:AH)(n:Nat)(Q:PQ):Prop:=S (.r r l::s) .bW f h n G Q
@[go_sem ↓] theorem ahq {v:AV} {e:Nat}:mV S (.k e) v r l s f h n F Q=kP S (pt F e v) r l s f h n Q:=bD rfl
@[go_sem] theorem akL:kP S F r l s f h n Q=S (.r r l::s) .bW f h n F Q:=rfl
@[go_sem] theorem akM {v:AV}:kS S (some v) d r l s f h n F Q=mV S d v r l s f h n F Q:=bD rfl
@[go_sem] theorem akN {c:List AV} {e:TypeId} {v:AV}:kC S (some c) e v d r l s f h n F Q=mV S d v r l s f (h.set n (.row e c)) (n+1) F Q:=bD rfl
@[go_sem] theorem akO {b:Nat} {a:AO}:kH S b (some a) d r l s f h n F Q=mV S d (.bN []) r l s f (h.set b a) n F Q:=bD rfl
@[go_sem] theorem akP {b o:Nat} {u:Option (List AV)}:kT S (some (.p b o)) u d r l s f h n F Q=kH S b (fE (h.get b) o u) d r l s f h n F Q:=bD rfl
theorem Ci{q:FuncId}{cap c:List AV}:kF Y S (some (.f q cap)) (some c) d r l s f h n F Q=CW f q (c++cap) h n λv h n=>mV S d v r l s f h n F Q:=rfl
theorem vO{q:Nat}{c:List AV}:kF Y S (some (.y q)) (some c) d r l s f h n F Q=RW (Y q c f h n) λv h n=>mV S d v r l s f h n F Q:=rfl
@[go_sem ↓] theorem adl {e:TypeId} {z:List AV}:jw P Y S (.al e z) d r l s f h n F Q=kC S (some z) e (.p n 0) d r l s f h n F Q:=bD rfl
@[go_sem ↓] theorem aa9 {e w:Nat} {x:MO}:jw P Y S (.box e w x) d r l s f h n F Q=kC S (Jz w (ev x F l)) e (.p n 0) d r l s f h n F Q:=bD rfl
@[go_sem ↓] theorem aa_ {e len:Nat} {z:List AV} {fs:List (Nat×Nat×MO)}:jw P Y S (.KO e len z fs) d r l s f h n F Q=kC S (colE fs F l z) e (.sl n 0 0 len (some len)) d r l s f h n F Q:=bD rfl
@[go_sem ↓] theorem adn {w:Nat} {a x:MO}:jw P Y S (.st w a x) d r l s f h n F Q=kT S (ev a F l) (Jz w (ev x F l)) d r l s f h n F Q:=bD rfl
@[go_sem ↓] theorem abb:jw P Y S .LM d r l s f h n F Q=mV S d (.m n) r l s f (h.set n (.mp [] 0)) (n+1) F Q:=bD rfl
@[go_sem ↓] theorem abd {w:Nat} {x i:MO}:jw P Y S (.iM w x i) d r l s f h n F Q=R_ S w (ev x F l) (ev i F l) d r l s f h n F Q:=bD rfl
@[go_sem ↓] theorem Yf {q:MO} {c:List MO}:jw P Y S (.call q c) d r l s f h n F Q=kF Y S (ev q F l) (evs c F l) d r l s f h n F Q:=bD rfl
@[go_sem ↓] theorem ado {x:MO}:jw P Y S (.mv x) d r l s f h n F Q=kS S (ev x F l) d r l s f h n F Q:=bD rfl
@[go_sem ↓] theorem Yg {c a b:MO}:jw P Y S (.pick c a b) d r l s f h n F Q=kS S (wL (ev c F l) (ev a F l) (ev b F l)) d r l s f h n F Q:=bD rfl
@[go_sem ↓] theorem abe {z:List AV} {fs:List (Nat×Nat×MO)}:jw P Y S (.Ic z fs) d r l s f h n F Q=kS S ((colE fs F l z).map .agg) d r l s f h n F Q:=bD rfl
@[go_sem ↓] theorem adp {w:Option Nat} {a:MO}:jw P Y S (.ld w a) d r l s f h n F Q=kS S (R8 h (ev a F l) w) d r l s f h n F Q:=bD rfl
@[go_sem ↓] theorem abf {op:BinOp} {ty:TypeId} {x y:MO}:jw P Y S (.bin op ty x y) d r l s f h n F Q=kS S (X9 P op ty (ev x F l) (ev y F l)) d r l s f h n F Q:=bD rfl
@[go_sem ↓] theorem abg {x:MO}:jw P Y S (.not x) d r l s f h n F Q=kS S (L6 (ev x F l)) d r l s f h n F Q:=bD rfl
@[go_sem ↓] theorem adq {o:Nat} {x:MO}:jw P Y S (.fa o x) d r l s f h n F Q=kS S (XR o (ev x F l)) d r l s f h n F Q:=bD rfl
@[go_sem ↓] theorem abh {w:Option Nat} {o:Nat} {x:MO}:jw P Y S (.RX w o x) d r l s f h n F Q=kS S (L8 w o (ev x F l)) d r l s f h n F Q:=bD rfl
@[go_sem ↓] theorem abj {ty:TypeId} {x:MO}:jw P Y S (.RS ty x) d r l s f h n F Q=kS S ((ev x F l).map (.zP ty)) d r l s f h n F Q:=bD rfl
@[go_sem ↓] theorem abk {q:FuncId} {cs:List MO}:jw P Y S (.Fq q cs) d r l s f h n F Q=kS S ((evs cs F l).map (.f q)) d r l s f h n F Q:=bD rfl
@[go_sem ↓] theorem abl {x:MO} {i:Nat}:jw P Y S (.ext x i) d r l s f h n F Q=kS S (L9 i (ev x F l)) d r l s f h n F Q:=bD rfl
@[go_sem ↓] theorem Yh {x:MO}:jw P Y S (.DR x) d r l s f h n F Q=kS S (XT (ev x F l)) d r l s f h n F Q:=bD rfl
@[go_sem ↓] theorem abm {x:MO}:jw P Y S (.neg x) d r l s f h n F Q=kS S (XU (ev x F l)) d r l s f h n F Q:=bD rfl
@[go_sem ↓] theorem abo {x:MO} {k:IntKind}:jw P Y S (.LK k x) d r l s f h n F Q=kS S (XV k (ev x F l)) d r l s f h n F Q:=bD rfl
@[go_sem ↓] theorem abp {x:MO}:jw P Y S (.RQ x) d r l s f h n F Q=kS S (XW (ev x F l)) d r l s f h n F Q:=bD rfl
@[go_sem ↓] theorem abq {x:MO}:jw P Y S (.RP x) d r l s f h n F Q=kS S (Fx (ev x F l)) d r l s f h n F Q:=bD rfl
@[go_sem ↓] theorem abr {w:Nat} {x:MO} {lo hi:Option MO}:jw P Y S (.RU w x lo hi) d r l s f h n F Q=kS S (XZ w (ev x F l) (zS lo F l) (zS hi F l)) d r l s f h n F Q:=bD rfl
@[go_sem ↓] theorem abt {x:MO} {lo hi:Option MO}:jw P Y S (.OX x lo hi) d r l s f h n F Q=kS S (X3 (ev x F l) (zS lo F l) (zS hi F l)) d r l s f h n F Q:=bD rfl
@[go_sem ↓] theorem Yi {x:MO}:jw P Y S (.DT x) d r l s f h n F Q=kS S (lmO h (ev x F l)) d r l s f h n F Q:=bD rfl
@[go_sem ↓] theorem Yj {kt:TypeId} {z:Option AV} {x k:MO} {ok:Bool}:jw P Y S (.look kt z x k ok) d r l s f h n F Q=kS S (Ww P kt z ok h (ev x F l) (ev k F l)) d r l s f h n F Q:=bD rfl
@[go_sem ↓] theorem abu {w m:Nat} {x k:MO}:jw P Y S (.Pz w m x k) d r l s f h n F Q=kS S (L_ w m (ev x F l) (ev k F l)) d r l s f h n F Q:=bD rfl
@[go_sem ↓] theorem abv {x k:MO}:jw P Y S (.zR x k) d r l s f h n F Q=kS S (Ma (ev x F l) (ev k F l)) d r l s f h n F Q:=bD rfl
@[go_sem ↓] theorem abw {lw:Option Nat} {w m:Nat} {x k:MO}:jw P Y S (.TU lw w m x k) d r l s f h n F Q=kS S (Ua lw w m (ev x F l) (ev k F l)) d r l s f h n F Q:=bD rfl
@[go_sem ↓] theorem abx {w m:Nat} {x:MO} {lo hi:Option MO}:jw P Y S (.RV w m x lo hi) d r l s f h n F Q=kS S (JA w m (ev x F l) (zS lo F l) (zS hi F l)) d r l s f h n F Q:=bD rfl
@[go_sem ↓] theorem Yk {m:Nat} {x:MO}:jw P Y S (.Fu m x) d r l s f h n F Q=kS S ((ev x F l).map λ_=>.i .i64 (m:Nat)) d r l s f h n F Q:=bD rfl
@[go_sem ↓] theorem adr {x y:MO}:jw P Y S (.mx x y) d r l s f h n F Q=kS S (X6 (ev x F l) (ev y F l)) d r l s f h n F Q:=bD rfl
@[go_sem ↓] theorem ads {x y:MO}:jw P Y S (.mn x y) d r l s f h n F Q=kS S (X8 (ev x F l) (ev y F l)) d r l s f h n F Q:=bD rfl
@[go_sem ↓] theorem aby {x:MO}:jw P Y S (.KP x) d r l s f h n F Q=kS S (T_ h (ev x F l)) d r l s f h n F Q:=bD rfl
@[go_sem ↓] theorem abz {e w:Nat} {x y:MO}:jw P Y S (.app e w x y) d r l s f h n F Q=kR S (PO e w h n (ev x F l) (ev y F l)) d r l s f F Q:=bD rfl
@[go_sem ↓] theorem abA {w:Nat} {x y:MO}:jw P Y S (.RY w x y) d r l s f h n F Q=kR S (Uc w h n (ev x F l) (ev y F l)) d r l s f F Q:=bD rfl
@[go_sem ↓] theorem abB {kt:TypeId} {m k x:MO}:jw P Y S (.upd kt m k x) d r l s f h n F Q=kR S (Ud P kt h n (ev m F l) (ev k F l) (ev x F l)) d r l s f F Q:=bD rfl
@[go_sem ↓] theorem abC {e:TypeId} {z:List AV} {x y:MO}:jw P Y S (.Ju e z x y) d r l s f h n F Q=kR S (X_ e z h n (ev x F l) (ev y F l)) d r l s f F Q:=bD rfl
@[go_sem] theorem adt {v:AV} {h':AH} {n':Nat}:kR S (some (.ok v h' n')) d r l s f F Q=mV S d v r l s f h' n' F Q:=bD rfl
@[go_sem] theorem Yl {e w:Nat} {x y:AV}:PO e w h n (some x) (some y)=some ((jr e w).run h n x y):=rfl
@[go_sem] theorem ahr {w:Nat} {x y:AV}:Uc w h n (some x) (some y)=some (rz w h n x y):=rfl
@[go_sem] theorem ahs {kt:TypeId} {m k x:AV}:Ud P kt h n (some m) (some k) (some x)=some (Di (qZ P 30 kt) (yh P 30 kt) h n m k x):=rfl
@[go_sem] theorem aht {k:IntKind} {v:Int}:XU (some (.i k v))=some (.i k (gM k (0 - v))):=rfl
@[go_sem] theorem ahu {k j:IntKind} {v:Int}:XV k (some (.i j v))=some (.i k (gM k v)):=rfl
@[go_sem] theorem ahv {c:List UInt8}:XW (some (.s c))=some (.s c):=rfl
@[go_sem] theorem adu {b o:Nat}:Fx (some (.p b o))=some (.p b o):=rfl
@[go_sem] theorem adw {q:FuncId} {c:List AV}:Fx (some (.f q c))=some (.f q c):=rfl
@[go_sem] theorem adx {q:Nat}:Fx (some (.y q))=some (.y q):=rfl
@[go_sem] theorem ahw:zS none F l=some none:=rfl
def evj(a:Option AV):Option (Option Int):=match a with|some (.i _ n)=>some (some n)|_=>none
@[go_sem] theorem ahy {k:IntKind} {v:Int}:evj (some (.i k v))=some (some v):=rfl
@[go_sem] theorem ahz {x:MO}:zS (some x) F l=evj (ev x F l):=rfl
@[go_sem] theorem ahA {kt:TypeId} {z:Option AV} {ok:Bool} {x k:AV}:Ww P kt z ok h (some x) (some k)=lookO (qZ P 30 kt) (yh P 30 kt) z ok h x k:=rfl
@[go_sem ↓] theorem Ym {x:MO}:jw P Y S (.gW x) d r l s f h n F Q=kS S (Jy (ev x F l)) d r l s f h n F Q:=bD rfl
@[go_sem] theorem ahB {id:Nat}:Ub .bW id= .bW:=rfl
@[go_sem] theorem ahC {id:Nat}:Ub .ret id= .ret:=rfl
@[go_sem] theorem ahD {j id:Nat}:Ub (.exit j) id=if j=id then .bW else .exit j:=rfl
@[go_sem] theorem ahE {rs:List MS} {Q:AV->AH->Nat->Prop}:KR rs Q .ret h n F=Uf (rsE rs F h) h n Q:=bD rfl
@[go_sem] theorem ahF {rs:List MS} {Q:AV->AH->Nat->Prop}:KR rs Q .bW h n F=Uf (rsE rs F h) h n Q:=bD rfl
@[go_sem] theorem ahG {c:List AV} {Q:AV->AH->Nat->Prop}:Uf (some c) h n Q=Q (Yb c) h n:=bD rfl
@[go_sem] theorem ahH {a:AV}:Yb [a]=a:=rfl
@[go_sem] theorem ahI:Yb []= .bN []:=rfl
@[go_sem] theorem ahJ {a b:AV} {c:List AV}:Yb (a::b::c)= .bN (a::b::c):=rfl
theorem D5{I:Nat->AH->Nat->Fm->Prop}{i:Nat}:WA P Y g I i s f Q .bW h n F=∃j G,j<i/\I j h n G/\∀m v,lk G m=some v->lk F m=some v:=rfl
@[go_sem ↓] theorem ahK {I:Nat->AH->Nat->Fm->Prop} {i j:Nat}:WA P Y g I i s f Q (.exit j) h n F=sK P Y g 100000 s (.exit j) f h n F Q:=bD rfl
@[go_sem ↓] theorem ahL {I:Nat->AH->Nat->Fm->Prop} {i:Nat}:WA P Y g I i s f Q .ret h n F=sK P Y g 100000 s .ret f h n F Q:=bD rfl
end
section
variable {h:AH} {w:Option Nat}
@[go_sem] theorem abD {a b:Option AV}:wL (some (.b true)) a b=a:=rfl
@[go_sem] theorem abE {a b:Option AV}:wL (some (.b false)) a b=b:=rfl
@[go_sem] theorem ahM {x k:Nat}:R8 h (some (.p x k)) w=qQ (h.get x) k w:=rfl
@[go_sem] theorem ahN {P:Program} {op:BinOp} {ty:TypeId} {a b:AV}:X9 P op ty (some a) (some b)=(dY P ty op).run a b:=rfl
@[go_sem] theorem ady {b:Bool}:L6 (some (.b b))=some (.b (!b)):=rfl
@[go_sem] theorem ahO {o b k:Nat}:XR o (some (.p b k))=some (.p b (k+o)):=rfl
@[go_sem] theorem adz {o:Nat} {c:List AV}:L8 w o (some (.agg c))=KQ w c o:=rfl
@[go_sem] theorem ahP {c:List UInt8}:XT (some (.s c))=some (.i .i64 (c.length:Nat)):=rfl
theorem Ar{v:AV}{m:Nat}(e:PN v=some m):Jy (some v)=some (.i .i64 (m:Nat)):=by unfold Jy;dsimp only;rw[e]
@[go_sem] theorem ahQ {w:Nat} {v:AV}:Jz w (some v)=(match qM v with|some c=>if c.length=w then some c else none|none=>none):=rfl
@[go_sem] theorem Yn {t:TypeId} {l u:List AV} {o:Nat}:fE (some (.row t l)) o (some u)=(oz u o l).map (.row t):=by
 show(match oz u o l with|some m=>some (AO.row t m)|none=>none)=_;cases oz u o l<;>rfl
end
def nv:List AV->Nat->Option AV
 |[],_=>none
 |a::_,0=>some a
 |_::l,k+1=>nv l k
theorem rG:∀(l:List AV)(k:Nat),nv l k=l[k]?
 |[],k=>by simp[nv]
 |a::l,0=>rfl
 |a::l,k+1=>by simp[nv,rG l k]
@[go_sem] theorem akQ {a:AV} {l:List AV}:nv (a::l) 0=some a:=rfl
@[go_sem] theorem akR {a:AV} {l:List AV} {k:Nat}:nv (a::l) (k+1)=nv l k:=rfl
@[go_sem] theorem adA {k:Nat} {c:List AV}:L9 k (some (.bN c))=nv c k:=(rG c k).symm
@[go_sem] theorem akS {k:Nat} {F:Fm} {l:List AV}:ev (.s k) F l=lk F k:=rfl
@[go_sem] theorem akT {k:Nat} {F:Fm} {l:List AV}:ev (.v k) F l=nv l k:=(rG l k).symm
@[go_sem] theorem akU {a:AV} {F:Fm} {l:List AV}:ev (.c a) F l=some a:=rfl
@[go_sem] theorem abF {F:Fm} {l:List AV}:evs [] F l=some []:=rfl
def Cj(a:Option AV)(b:Option (List AV)):Option (List AV):=match a,b with|some a,some b=>some (a::b)|_,_=>none
@[go_sem] theorem adB {a:AV} {b:List AV}:Cj (some a) (some b)=some (a::b):=rfl
@[go_sem] theorem Yo {x:MO} {r:List MO} {F:Fm} {l:List AV}:evs (x::r) F l=Cj (ev x F l) (evs r F l):=by
 rw[evs];unfold Cj;cases ev x F l with
 |none=>rfl
 |some a=>cases evs r F l<;>rfl
@[go_sem] theorem abG {F:Fm} {h:AH}:rsE [] F h=some []:=rfl
@[go_sem] theorem Yp {r:MS} {l:List MS} {F:Fm} {h:AH}:rsE (r::l) F h=Cj (Fz r F h) (rsE l F h):=by
 rw[rsE];unfold Cj;cases Fz r F h with
 |none=>rfl
 |some a=>cases rsE l F h<;>rfl
@[go_sem] theorem adC {k:Nat} {F:Fm} {h:AH}:Fz (.t k) F h=lk F k:=rfl
@[go_sem] theorem adD {k:Nat} {w:Option Nat} {F:Fm} {h:AH}:Fz (.c k w) F h=R8 h (lk F k) w:=rfl
@[go_sem] theorem adE {k:Nat}:lk [] k=none:=rfl
@[go_sem] theorem P5 {j k:Nat} {v:AV} {r:Fm}:lk ((j,v)::r) k=if k=j then some v else lk r k:=rfl
@[go_sem] theorem adF {k:Nat} {v:AV}:pt [] k v=[(k,v)]:=rfl
@[go_sem] theorem abH {j k:Nat} {u v:AV} {r:Fm}:pt ((j,u)::r) k v=if k=j then(k,v)::r else(j,u)::pt r k v:=rfl
@[go_sem] theorem adG {k:Nat} {bs:List Bool} {v:AV} {l:List AV}:xA k (true::bs) (v::l)=(k,v)::xA (k+1) bs l:=rfl
@[go_sem] theorem adH {k:Nat} {bs:List Bool} {v:AV} {l:List AV}:xA k (false::bs) (v::l)=xA (k+1) bs l:=rfl
@[go_sem] theorem adI {k:Nat}:xA k [] []=[]:=rfl
theorem aO{F:Fm}:∀m v,lk [] m=some v->lk F m=some v:=λ_ _ e=>by cases e
theorem aN{F:Fm}{k:Nat}{u:AV}{r:Fm}(h:lk F k=some u)(q:∀m v,lk r m=some v->lk F m=some v):∀m v,lk ((k,u)::r) m=some v->lk F m=some v:=λm v e=>by
 rw[P5]at e;split at e
 .cases e;subst_vars;exact h
 .exact q m v e
@[go_sem] theorem ahR {k:IntKind} {n:Int}:qM (.i k n)=some [.i k n]:=rfl
@[go_sem] theorem ahS {b:Bool}:qM (.b b)=some [.b b]:=rfl
@[go_sem] theorem ahT {b:List UInt8}:qM (.s b)=some [.s b]:=rfl
@[go_sem] theorem ahU {b o:Nat}:qM (.p b o)=some [.p b o]:=rfl
@[go_sem] theorem adJ {b l o n:Nat} {c:Option Nat}:qM (.sl b l o n c)=some [.sl b l o n c]:=rfl
@[go_sem] theorem ahV {b:Nat}:qM (.m b)=some [.m b]:=rfl
@[go_sem] theorem ahW {g:FuncId} {c:List AV}:qM (.f g c)=some [.f g c]:=rfl
@[go_sem] theorem ahX {b:Nat}:qM (.y b)=some [.y b]:=rfl
@[go_sem] theorem ahY {c:Nat}:qM (.k c)=some [.k c]:=rfl
@[go_sem] theorem adK {a:Addr} {c:Nat}:qM (.es a c)=some [.es a c]:=rfl
@[go_sem] theorem abI {c:List AV}:qM (.agg c)=some c:=rfl
theorem SR.cl{h:AH}{n w:Nat}{v:AV}{len:Nat}{cells:List AV}(s:SR h n w v len cells):qM v=some [v]:=by
 rcases s with⟨rfl,rfl,_⟩|⟨x,lo,o,c,rfl,_⟩|⟨a,c,rfl,_⟩<;>rfl
def tk:Nat->List AV->Option (List AV)
 |0,_=>some []
 |_+1,[]=>none
 |k+1,a::l=>Cj (some a) (tk k l)
theorem Sb:∀(k:Nat)(l:List AV),tk k l=if k<=l.length then some (l.take k)else none
 |0,l=>by simp[tk]
 |k+1,[]=>by simp[tk]
 |k+1,a::l=>by
  rw[tk,Sb k l];by_cases h:k<=l.length
  .rw[if_pos h,if_pos (by simpa using h)];rfl
  .rw[if_neg h,if_neg (by simpa using h)];rfl
def P6:Nat->Nat->List AV->Option (List AV)
 |0,k,l=>tk k l
 |_+1,_,[]=>none
 |o+1,k,_::l=>P6 o k l
theorem Mj:∀(o k:Nat)(l:List AV),0<k->P6 o k l=if o+k<=l.length then some ((l.drop o).take k)else none
 |0,k,l,_=>by rw[P6,Sb];simp
 |o+1,k,[],h=>by rw[P6,if_neg (by simp)]
 |o+1,k,a::l,h=>by
  rw[P6,Mj o k l h];simp only[List.length_cons,List.drop_succ_cons,show o+1+k<=l.length+1↔o+k<=l.length by omega]
@[go_sem] theorem akV {l:List AV}:tk 0 l=some []:=by cases l<;>rfl
@[go_sem] theorem akW {a:AV} {l:List AV} {k:Nat}:tk (k+1) (a::l)=Cj (some a) (tk k l):=rfl
@[go_sem] theorem ahZ {l:List AV} {k:Nat}:P6 0 k l=tk k l:=by cases l<;>rfl
@[go_sem] theorem ah0 {a:AV} {l:List AV} {o k:Nat}:P6 (o+1) k (a::l)=P6 o k l:=rfl
@[go_sem] theorem Yq {t:TypeId} {l:List AV} {o:Nat}:qQ (some (.row t l)) o none=nv l o:=(rG l o).symm
@[go_sem] theorem ah1 {t:TypeId} {l:List AV} {o k:Nat}:qQ (some (.row t l)) o (some (k+1))=(P6 o (k+1) l).map .agg:=by
 rw[Mj _ _ _ (by omega)];show(if o+(k+1)<=l.length then some (AV.agg ((l.drop o).take (k+1)))else none)=_;split<;>rfl
@[go_sem] theorem ah2 {l:List AV} {o:Nat}:KQ none l o=nv l o:=by rw[rG];exact m_ o l
attribute [go_sem] Option.map_some
def st1:Nat->AV->List AV->Option (List AV)
 |_,_,[]=>none
 |0,v,_::l=>some (v::l)
 |o+1,v,a::l=>Cj (some a) (st1 o v l)
theorem sw:∀(o:Nat)(v:AV)(l:List AV),st1 o v l=oz [v] o l
 |o,v,[]=>by simp[st1,oz]
 |0,v,a::l=>by simp[st1,oz]
 |o+1,v,a::l=>by
  rw[st1,sw o v l];unfold oz;by_cases h:o+1<=l.length
  .simp[h,Cj,show o+1+1<=l.length+1 by omega]
  .simp[h,Cj]
@[go_sem] theorem ah3 {o:Nat} {v:AV} {l:List AV}:oz [v] o l=st1 o v l:=(sw o v l).symm
@[go_sem] theorem ah4 {v a:AV} {l:List AV}:st1 0 v (a::l)=some (v::l):=rfl
@[go_sem] theorem ah5 {v a:AV} {l:List AV} {o:Nat}:st1 (o+1) v (a::l)=Cj (some a) (st1 o v l):=rfl
theorem Yr{u l:List AV}(h:u.length=l.length):oz u 0 l=some u:=by
 unfold oz;rw[if_pos (by omega)];simp[h]
def P7:List AV->List AV->Option (List AV)
 |[],l=>some l
 |_::_,[]=>none
 |a::u,_::l=>Cj (some a) (P7 u l)
theorem Mk:∀(u l:List AV),P7 u l=oz u 0 l
 |[],l=>by simp[P7,oz]
 |a::u,[]=>by simp[P7,oz]
 |a::u,c::l=>by
  rw[P7,Mk u l];unfold oz;by_cases h:u.length<=l.length
  .simp[h,Cj]
  .simp[h,Cj]
@[go_sem] theorem ah6 {l:List AV}:P7 [] l=some l:=by cases l<;>rfl
@[go_sem] theorem ah7 {a c:AV} {u l:List AV}:P7 (a::u) (c::l)=Cj (some a) (P7 u l):=rfl
@[go_sem] theorem adL {a b c:AV} {u l:List AV}:oz (a::b::u) 0 (c::l)=P7 (a::b::u) (c::l):=(Mk _ _).symm
@[go_sem] theorem adM {a b c:AV} {u l:List AV} {o:Nat}:oz (a::b::u) (o+1) (c::l)=Cj (some c) (oz (a::b::u) o l):=by
 unfold oz;by_cases h:o+(a::b::u).length<=l.length
 .rw[if_pos h,if_pos (by simp at h⊢;omega)]
  simp[Cj,show o+1+(u.length+1+1)=o+(u.length+1+1)+1 by omega]
 .rw[if_neg h,if_neg (by simp at h⊢;omega)];rfl
attribute [go_sem] List.length_cons List.length_nil
@[go_sem] theorem uh {t:AH} {n:Nat} {v:AO}:(t.set n v).get n=some v:=aG
@[go_sem] theorem WE {t:AH} {n m:Nat} {v:AO} (h:m≠n):(t.set n v).get m=t.get m:=ay h
section
variable {P:Program} {ty:TypeId} {a b:Int}
@[go_sem] theorem P8:(dY P ty .lss).run (.i .i64 a) (.i .i64 b)=some (.b (decide (a<b))):=by
 show bc true (some (AV.b (qh (lD b a)))) none=_;rw[bF,jk,eP];congr 2;by_cases h:a<b<;>simp[h]<;>omega
@[go_sem] theorem abJ:(dY P ty .leq).run (.i .i64 a) (.i .i64 b)=some (.b (decide (a<=b))):=by
 show bc true (some (AV.b (lD a b))) none=_;rw[bF,eP]
@[go_sem] theorem abK:(dY P ty .gtr).run (.i .i64 a) (.i .i64 b)=some (.b (decide (b<a))):=by
 show bc true (some (AV.b (qh (lD a b)))) none=_;rw[bF,jk,eP];congr 2;by_cases h:b<a<;>simp[h]<;>omega
@[go_sem] theorem abM:(dY P ty .geq).run (.i .i64 a) (.i .i64 b)=some (.b (decide (b<=a))):=by
 show bc true (some (AV.b (lD b a))) none=_;rw[bF,eP]
@[go_sem] theorem abN:(dY P ty .eql).run (.i .i64 a) (.i .i64 b)=some (.b (decide (a=b))):=by
 show bc true (some (AV.b (fM a b))) none=_;rw[bF,cK]
@[go_sem] theorem abO:(dY P ty .neq).run (.i .i64 a) (.i .i64 b)=some (.b (!decide (a=b))):=by
 show bc true (some (AV.b (qh (fM a b)))) none=_;rw[bF,jk,cK]
@[go_sem] theorem P9:(dY P ty .add).run (.i .i64 a) (.i .i64 b)=some (.i .i64 (gM .i64 (a+b))):=rfl
@[go_sem] theorem abP:(dY P ty .sub).run (.i .i64 a) (.i .i64 b)=some (.i .i64 (gM .i64 (a - b))):=rfl
@[go_sem] theorem abQ:(dY P ty .mul).run (.i .i64 a) (.i .i64 b)=some (.i .i64 (gM .i64 (a*b))):=rfl
theorem dN{x:Int}(h1: -9223372036854775808<=x)(h2:x<=9223372036854775807):gM .i64 x=x:=by
 unfold gM;rw[eP,eP,show IntKind.i64.min= -9223372036854775808 from by decide,show IntKind.i64.max=9223372036854775807 from by decide];simp[h1,h2,bc]
end
end
section
mutual
theorem yP:∀(a:AV),Ja a a=true
 | .b x=>by cases x<;>rfl
 | .i k n=>by
  show bc (w9 k k) (fM n n) false=true;rw[cK,show w9 k k=true from decide_eq_true rfl];simp[bc]
 | .s l=>by show qN l l=true;rw[iX];simp
 | .p x o=>by show bc (Nat.beq x x) (Nat.beq o o) false=true;rw[Nat.beq_refl,Nat.beq_refl];rfl
 | .sl x l o n none=>by show bc (Nat.beq x x) (bc (Nat.beq l l) (bc (Nat.beq o o) (Nat.beq n n) false) false) false=true;rw[Nat.beq_refl,Nat.beq_refl,Nat.beq_refl,Nat.beq_refl];rfl
 | .sl x l o n (some c)=>by show bc (Nat.beq x x) (bc (Nat.beq l l) (bc (Nat.beq o o) (bc (Nat.beq n n) (Nat.beq c c) false) false) false) false=true;rw[Nat.beq_refl,Nat.beq_refl,Nat.beq_refl,Nat.beq_refl,Nat.beq_refl];rfl
 | .m x=>Nat.beq_refl x
 | .f g l=>by show bc (Nat.beq g g) (vw l l) false=true;rw[Nat.beq_refl,qC l];rfl
 | .y x=>Nat.beq_refl x
 | .zP t v=>by show bc (Nat.beq t t) (Ja v v) false=true;rw[Nat.beq_refl,yP v];rfl
 | .agg l=>qC l
 | .bN l=>qC l
 | .es a c=>by show bc (decide (a=a)) (Nat.beq c c) false=true;rw[decide_eq_true rfl,Nat.beq_refl];rfl
 | .k c=>Nat.beq_refl c
theorem qC:∀(l:List AV),vw l l=true
 |[]=>rfl
 |a::l=>by show bc (Ja a a) (vw l l) false=true;rw[yP a,qC l];rfl
end
def Ij(i:Nat):List Nat->List AV->Option (List AV)
 |[],_=>some []
 |k::ks,vs=>Cj (nv vs (i - 1 - k)) (Ij i ks vs)
theorem yR{i:Nat}:∀{ks:List Nat}{vs l:List AV},Ij i ks vs=some l->(Ld i ks).run vs=some l
 |[],vs,l,e=>e
 |k::ks,vs,l,e=>by
  rw[Ij]at e;cases h1:nv vs (i - 1 - k)with
  |none=>rw[h1]at e;cases e
  |some a=>
   cases h2:Ij i ks vs with
   |none=>rw[h1,h2]at e;cases e
   |some b=>
    rw[h1,h2]at e;cases e
    show bnd ((Dh (i - 1 - k)).run vs) _=_;rw[jv,<-rG,h1];show bnd ((Ld i ks).run vs) _=_;rw[yR h2];rfl
def fu(w:Nat)(a k:Option AV):Option AV:=match a,k with
 |some (.sl b _ o m _),some (.i _ k)=>if 0<=k/\k<(m:Nat)then some (.p b (o+k.toNat*w))else none
 |_,_=>none
section
variable (P:Program) (Y:YT)
noncomputable def qR (i:MI)(h:AH)(F:Fm)(l:List AV):Option AV:=match i with
 | .iM w x ix=>fu w (ev x F l) (ev ix F l)
 |i=>pv P i h F l
theorem Ml{i:MI}{f:FT}{h:AH}{n:Nat}{F:Fm}{l:List AV}{t:Tr AV}{v:AV}(e:qR P i h F l=some v)(hF:Fk t F):i.run P Y f t l h n= .ok v h n:=by
 unfold qR at e;split at e
 .unfold fu at e
  split at e
  .rename_i hx hk
   split at e
   .rename_i hr
    cases e
    obtain⟨k',rfl⟩:=Int.eq_ofNat_of_zero_le hr.1;simp only[MI.run,bf hF hx,bf hF hk];rename_i m _ _ _ _ _;show ok1 (bc (Nat.ble (Nat.succ k') _) _ none) h n=_;rw[Nat.ble_eq_true_of_le (by have:=hr.2;omega),bF];rfl
   .cases e
  .cases e
 .exact R9 P Y e hF
def Ul(g:Option Bool)(v:Option AV):Option AV:=match g with
 |some true=>v
 |some false=>some (.bN [])
 |none=>none
noncomputable def JC (i:Nat)(o:MQ)(h:AH)(F:Fm)(vs:List AV):Option AV:=match Ij i o.ks vs with
 |some l=>Ul (gO o.g F l) (qR P o.i h F l)
 |none=>none
noncomputable def msA (e:TypeId)(z:List AV)(x:Nat)(a c:Option AV):Option (AV×AO):=match a,c with
 |some (.i _ (.ofNat a)),some (.i _ (.ofNat c))=>if a<=c/\c<=1048576 then some (.sl x 0 0 a (some c),.row e (rep c z))else none
 |_,_=>none
noncomputable def P_ (i:MI)(x:Nat)(F:Fm)(l:List AV):Option (AV×AO):=match i with
 | .al e z=>some (.p x 0,.row e z)
 | .box e w a=>(Jz w (ev a F l)).map λc=>(.p x 0,.row e c)
 | .KO e len z fs=>(colE fs F l z).map λc=>(.sl x 0 0 len (some len),.row e c)
 | .LM=>some (.m x,.mp [] 0)
 | .Ju e z a c=>msA e z x (ev a F l) (ev c F l)
 |_=>none
structure DE where
 g:FuncId
 S:SK
 all:List MQ
 ck:List (Nat×Nat)
 wr:List (Nat×Tmp)
 s:List It
 Q:PQ
abbrev DK:=List MQ->Nat->Nat->Nat->FT->AH->Nat->List AV->List (Nat×AH)->Fm->Prop
def FK(p:Nat):List (Nat×AH)->Option AH
 |[]=>none
 |x::l=>if x.1=p then some x.2 else FK p l
def nq:List MQ->Nat->Option MQ
 |[],_=>none
 |a::_,0=>some a
 |_::l,k+1=>nq l k
noncomputable def Qa (N:Nat)(F:Fm)(vs:List AV)(o:Option MQ)(H:Option AH)(v:Option AV):Prop:=match o,H,v with
 |some o,some H,some v=>o.k=1/\JC P N o H F vs=some v
 |_,_,_=>False
noncomputable def Qc (all:List MQ)(F:Fm)(vs:List AV)(hs:List (Nat×AH)):List (Nat×Nat)->Prop
 |[]=>True
 |x::l=>Qa P all.length F vs (nq all x.1) (FK x.2 hs) (nv vs (all.length - 1 - x.1))/\Qc all F vs hs l
def wr1(F:Fm)(k:Nat)(v:Option AV):Option Fm:=match v with
 |some v=>some (pt F k v)
 |none=>none
def JD(i:Nat):List (Nat×Tmp)->List AV->Option Fm->Option Fm
 |[],_,F=>F
 |x::l,vs,F=>match F with
  |some F=>JD i l vs (wr1 F x.2 (nv vs (i - 1 - x.1)))
  |none=>none
def dW(E:DE)(F:Option Fm)(f:FT)(h:AH)(n:Nat):Prop:=match F with
 |some F=>E.S E.s .bW f h n F E.Q
 |none=>False
def dV(D:DK)(v:Option AV)(l:List MQ)(j r n0:Nat)(f:FT)(h:AH)(n:Nat)(vs:List AV)(hs:List (Nat×AH))(F:Fm):Prop:=match v with
 |some v=>D l (j+1) r n0 f h n (v::vs) hs F
 |none=>False
noncomputable def dA (D:DK)(b:Option Bool)(v:Option (AV×AO))(l:List MQ)(j r n0:Nat)(f:FT)(h:AH)(n:Nat)(vs:List AV)(hs:List (Nat×AH))(F:Fm):Prop:=match b,v with
 |some true,some v=>D l (j+1) (r+1) n0 f (h.set (n0+r) v.2) n (v.1::vs) hs F
 |some false,_=>D l (j+1) (r+1) n0 f h n (.bN []::vs) hs F
 |_,_=>False
noncomputable def dH (D:DK)(b:Nat)(a:Option AO)(l:List MQ)(j r n0:Nat)(f:FT)(h:AH)(n:Nat)(vs:List AV)(hs:List (Nat×AH))(F:Fm):Prop:=match a with
 |some a=>D l (j+1) r n0 f (h.set b a) n (.bN []::vs) ((j+1,h.set b a)::hs) F
 |none=>False
noncomputable def dT (D:DK)(a:Option AV)(u:Option (List AV))(l:List MQ)(j r n0:Nat)(f:FT)(h:AH)(n:Nat)(vs:List AV)(hs:List (Nat×AH))(F:Fm):Prop:=match a with
 |some (.p b o)=>dH D b (fE (h.get b) o u) l j r n0 f h n vs hs F
 |_=>False
def dF(D:DK)(g:Option AV)(c:Option (List AV))(l:List MQ)(j r n0:Nat)(f:FT)(h:AH)(n:Nat)(vs:List AV)(hs:List (Nat×AH))(F:Fm):Prop:=match g,c with
 |some (.f g cap),some c=>CW f g (c++cap) h n λv h n=>D l (j+1) r n0 f h n (v::vs) ((j+1,h)::hs) F
 |some (.y q),some c=>RW (Y q c f h n) λv h n=>D l (j+1) r n0 f h n (v::vs) ((j+1,h)::hs) F
 |_,_=>False
def dR(D:DK)(o:Option eZ)(l:List MQ)(j r n0:Nat)(f:FT)(vs:List AV)(hs:List (Nat×AH))(F:Fm):Prop:=match o with
 |some (.ok v h n)=>D l (j+1) r n0 f h n (v::vs) ((j+1,h)::hs) F
 |_=>False
noncomputable def dX (D:DK)(i:MI)(u:List AV)(l:List MQ)(j r n0:Nat)(f:FT)(h:AH)(n:Nat)(vs:List AV)(hs:List (Nat×AH))(F:Fm):Prop:=match i with
 | .st w a x=>dT D (ev a F u) (Jz w (ev x F u)) l j r n0 f h n vs hs F
 | .call g cs=>dF Y D (ev g F u) (evs cs F u) l j r n0 f h n vs hs F
 | .app e w x y=>dR D (PO e w h n (ev x F u) (ev y F u)) l j r n0 f vs hs F
 | .RY w x y=>dR D (Uc w h n (ev x F u) (ev y F u)) l j r n0 f vs hs F
 | .upd kt m k x=>dR D (Ud P kt h n (ev m F u) (ev k F u) (ev x F u)) l j r n0 f vs hs F
 |i=>∀t,Fk t F->RW (i.run P Y f t u h n) λv h n=>D l (j+1) r n0 f h n (v::vs) ((j+1,h)::hs) F
noncomputable def dG (D:DK)(b:Option Bool)(i:MI)(u:List AV)(l:List MQ)(j r n0:Nat)(f:FT)(h:AH)(n:Nat)(vs:List AV)(hs:List (Nat×AH))(F:Fm):Prop:=match b with
 |some true=>dX P Y D i u l j r n0 f h n vs hs F
 |some false=>D l (j+1) r n0 f h n (.bN []::vs) ((j+1,h)::hs) F
 |none=>False
noncomputable def d3 (D:DK)(u:Option (List AV))(o:MQ)(l:List MQ)(j r n0:Nat)(f:FT)(h:AH)(n:Nat)(vs:List AV)(hs:List (Nat×AH))(F:Fm):Prop:=match u with
 |some u=>dG P Y D (gO o.g F u) o.i u l j r n0 f h n vs hs F
 |none=>False
noncomputable def d2 (D:DK)(u:Option (List AV))(o:MQ)(l:List MQ)(j r n0:Nat)(f:FT)(h:AH)(n:Nat)(vs:List AV)(hs:List (Nat×AH))(F:Fm):Prop:=match u with
 |some u=>dA D (gO o.g F u) (P_ o.i (n0+r) F u) l j r n0 f h n vs hs F
 |none=>False
noncomputable def dK (E:DE):Nat->DK
 |0=>λ_ _ _ _ _ _ _ _ _ _=>False
 |k+1=>λl j r n0 f h n vs hs F=>match l with
  |[]=>Qc P E.all F vs hs E.ck/\dW E (JD E.all.length E.wr vs (some F)) f h n
  |o::l=>match o.k with
   |3=>d3 P Y (dK E k) (Ij j o.ks vs) o l j r n0 f h n vs hs F
   |2=>d2 (dK E k) (Ij j o.ks vs) o l j r n0 f h n vs hs F
   |1=>(match o.r with
    |true=>dV (dK E k) (JC P j o h F vs) l j r n0 f h n vs hs F
    |false=>(match hs with|[]=>False|x::_=>dV (dK E k) (JC P j o x.2 F vs) l j r n0 f h n vs hs F))
   |0=>dV (dK E k) (JC P j o .z F vs) l j r n0 f h n vs hs F
   |_=>False
section
variable {P Y} {f:FT} {F:Fm} {t:Tr AV}
theorem Ck{i j:Nat}{o:MQ}{h:AH}{n:Nat}{vs:List AV}{v:AV}(hF:Fk t F)(hk:o.k=0\/o.k=1)(e:JC P i o (if o.k=0 then .z else h) F vs=some v):lG P Y i o f t j h n vs= .ok v h n:=by
 unfold JC at e;split at e
 case h_2=>cases e
 rename_i l hl;unfold Ul at e;unfold lG;rcases hk with hk|hk<;>rw[hk]<;>(try dsimp only)<;>rw[yR hl]
 .rw[hk,if_pos rfl]at e
  split at e
  .rename_i hg
   show EG (BU o.g t l) _ _=_;rw[rF hF hg];show OW (o.i.run P Y f t l .z 0) _=_;rw[Ml P Y e hF];rfl
  .rename_i hg
   cases e
   show EG (BU o.g t l) _ _=_;rw[rF hF hg];rfl
  .cases e
 .rw[hk,if_neg (by decide)]at e
  split at e
  .rename_i hg
   show EG (BU o.g t l) _ _=_;rw[rF hF hg];show OW (o.i.run P Y f t l h 0) _=_;rw[Ml P Y e hF];rfl
  .rename_i hg
   cases e
   show EG (BU o.g t l) _ _=_;rw[rF hF hg];rfl
  .cases e
theorem Um{i:MI}{x:Nat}{l:List AV}{v:AV×AO}(hF:Fk t F)(e:P_ i x F l=some v):i.run P Y f t l .z x= .ok v.1 ((Tr.z:AH).set x v.2) (x+1):=by
 unfold P_ at e;split at e
 .cases e;rfl
 .obtain⟨c,h1,rfl⟩:=Option.map_eq_some_iff.1 e
  obtain⟨v,h2,h3,h4⟩:=Ih h1;simp only[MI.run,bf hF h2,aM,h3,eD,h4,Nat.beq_refl,bF];rfl
 .obtain⟨c,h1,rfl⟩:=Option.map_eq_some_iff.1 e
  simp only[MI.run,xM hF h1,aM];rfl
 .cases e;rfl
 .unfold msA at e
  split at e
  .rename_i h1 h2
   split at e
   .rename_i h3
    cases e
    simp only[MI.run,bf hF h1,bf hF h2];rw[Nat.ble_eq_true_of_le h3.1,bF,Nat.ble_eq_true_of_le h3.2,bF];rfl
   .cases e
  .cases e
 .cases e
theorem Yt{D:DK}{i:MI}{u:List AV}{l:List MQ}{j r n0:Nat}{h:AH}{n:Nat}{vs:List AV}{hs:List (Nat×AH)}(hF:Fk t F)(e:dX P Y D i u l j r n0 f h n vs hs F):
 ∃v h' n',i.run P Y f t u h n= .ok v h' n'/\D l (j+1) r n0 f h' n' (v::vs) ((j+1,h')::hs) F:=by
 unfold dX at e;split at e
 .unfold dT at e
  split at e
  case h_2=>exact e.elim
  rename_i b o hb;unfold dH at e;split at e
  case h_2=>exact e.elim
  rename_i a ha;refine⟨_,_,_,?_,e⟩;unfold fE at ha;split at ha
  case h_2=>cases ha
  rename_i q1 q2 ty lo u h5 h6;split at ha
  case h_2=>cases ha
  cases ha
  obtain⟨v,h1,h2,h3⟩:=Ih h6;simp only[MI.run,bf hF hb,bf hF h1,aM];unfold yj;dsimp only;rw[h5];dsimp only;rw[h2];show bc (Nat.beq (mU u) _) (aM (u_ u o lo) _) .bad=_;rw[eD,h3,Nat.beq_refl,bF,yO ‹_›];rfl
 .unfold dF at e
  split at e
  .rename_i h1 h2
   obtain⟨v,h',n',e1,e2⟩:=e;refine⟨v,h',n',?_,e2⟩;simp only[MI.run,bf hF h1,vL hF h2,aM,iK,e1]
  .rename_i h1 h2
   obtain⟨v,h',n',e1,e2⟩:=e;refine⟨v,h',n',?_,e2⟩;simp only[MI.run,bf hF h1,vL hF h2,aM,e1]
  .exact e.elim
 .unfold dR PO at e
  split at e
  case h_2=>exact e.elim
  rename_i ho;split at ho
  case h_2=>cases ho
  rename_i h1 h2;refine⟨_,_,_,?_,e⟩;simp only[MI.run,bf hF h1,bf hF h2,aM];exact Option.some.inj ho
 .unfold dR Uc at e
  split at e
  case h_2=>exact e.elim
  rename_i ho;split at ho
  case h_2=>cases ho
  rename_i h1 h2;refine⟨_,_,_,?_,e⟩;simp only[MI.run,bf hF h1,bf hF h2,aM];exact Option.some.inj ho
 .unfold dR Ud at e
  split at e
  case h_2=>exact e.elim
  rename_i ho;split at ho
  case h_2=>cases ho
  rename_i h1 h2 h3;refine⟨_,_,_,?_,e⟩;simp only[MI.run,bf hF h1,bf hF h2,bf hF h3,aM];exact Option.some.inj ho
 .exact e t hF
theorem Ik{p:Nat}:∀{hs:List (Nat×AH)},Dp p hs=FK p hs
 |[]=>rfl
 |(q,h)::hs=>by rw[BN,FK,Ik]
theorem Sc:∀(l:List MQ)(k:Nat),nq l k=l[k]?
 |[],k=>by simp[nq]
 |a::l,0=>rfl
 |a::l,k+1=>by simp[nq,Sc l k]
theorem Mq{all:List MQ}{vs:List AV}{hs:List (Nat×AH)}(hF:Fk t F):∀{ck:List (Nat×Nat)},Qc P all F vs hs ck->TW P Y all ck f t vs hs=true
 |[],_=>rfl
 |x::l,e=>by
  obtain⟨e0,e⟩:=e;unfold Qa at e0;split at e0
  case h_2=>exact e0.elim
  rename_i o H v h1 h2 h3;obtain⟨h4,h5⟩:=e0;rw[Sc]at h1;rw[TW,Mq hF e,h1];dsimp only;rw[Ik,h2,jv,<-rG,h3];dsimp only;have:lG P Y all.length o f t 0 H 0 vs= .ok v H 0:=Ck hF (.inr h4) (by rw[if_neg (by rw[h4];decide)];exact h5);rw[this];dsimp only;rw[yP];rfl
theorem Mr{i:Nat}{vs:List AV}:∀{wr:List (Nat×Tmp)}{G:Fm},JD i wr vs none=some G->False
 |[],_,e=>by cases e
 |_::_,_,e=>by cases e
theorem Ms{i:Nat}{vs:List AV}:∀{wr:List (Nat×Tmp)}{F G:Fm}{t:Tr AV},JD i wr vs (some F)=some G->Fk t F->∃t',Jw i wr vs t=some t'/\Fk t' G
 |[],F,G,t,e,hF=>by cases e;exact⟨t,rfl,hF⟩
 |x::l,F,G,t,e,hF=>by
  rw[JD]at e;cases hv:nv vs (i - 1 - x.1)with
  |none=>rw[hv]at e;exact(Mr (show JD i l vs none=some G from e)).elim
  |some v=>
   rw[hv]at e;obtain⟨t',h1,h2⟩:=Ms (show JD i l vs (some (pt F x.2 v))=some G from e) (hF.put x.2 v);refine⟨t',?_,h2⟩;show bnd ((Dh (i - 1 - x.1)).run vs) _=_;rw[jv,<-rG,hv];exact h1
theorem yS{E:DE}:∀(k:Nat){l:List MQ}{j r n0:Nat}{h:AH}{n:Nat}{vs:List AV}{hs:List (Nat×AH)},Fk t F->dK P Y E k l j r n0 f h n vs hs F->
 ∃h1 n1 vs1 hs1,vK P Y l j r f t n0 h n vs hs= .ok h1 n1 vs1 hs1/\Qc P E.all F vs1 hs1 E.ck/\dW E (JD E.all.length E.wr vs1 (some F)) f h1 n1
 |0,l,j,r,n0,h,n,vs,hs,hF,e=>e.elim
 |k+1,[],j,r,n0,h,n,vs,hs,hF,e=>⟨_,_,_,_,rfl,e.1,e.2⟩
 |k+1,o::l,j,r,n0,h,n,vs,hs,hF,e=>by
  rw[vK.eq_def];dsimp only;rw[dK]at e;dsimp only at e;have val:∀{H:AH}{v:Option AV},(∀v,JC P j o H F vs=some v->∃H' n',lG P Y j o f t 0 H n vs= .ok v H' n')->dV (dK P Y E k) (JC P j o H F vs) l j r n0 f h n vs hs F->
   ∃v H' n',lG P Y j o f t 0 H n vs= .ok v H' n'/\∃h1 n1 vs1 hs1,vK P Y l (j+1) r f t n0 h n (v::vs) hs= .ok h1 n1 vs1 hs1/\Qc P E.all F vs1 hs1 E.ck/\dW E (JD E.all.length E.wr vs1 (some F)) f h1 n1:=by
   intro H _ q e;unfold dV at e;split at e
   .obtain⟨H',n',q⟩:=q _ ‹_›
    exact⟨_,_,_,q,yS k hF e⟩
   .exact e.elim
  split at e
  .rename_i hk
   simp only[hk];unfold d3 at e;split at e
   case h_2=>exact e.elim
   rename_i u hu;unfold dG at e;have hd:∀x,lG P Y j o f t x h n vs=EG (BU o.g t u) (o.i.run P Y f t u h n) (.ok (.bN []) h n):=λx=>by
    unfold lG;rw[hk];try dsimp only
    rw[yR hu];rfl
   split at e
   .rename_i hg
    obtain⟨v,h',n',e1,e2⟩:=Yt hF e;rw[hd,rF hF hg,e1];exact yS k hF e2
   .rename_i hg
    rw[hd,rF hF hg];exact yS k hF e
   .exact e.elim
  .rename_i hk
   simp only[hk];unfold d2 at e;split at e
   case h_2=>exact e.elim
   rename_i u hu;unfold dA at e;split at e
   .rename_i v hg hv
    have:lG P Y j o f t (Nat.add n0 r) h n vs= .ok v.1 (h.set (n0+r) v.2) n:=by
     unfold lG;rw[hk];try dsimp only
     rw[yR hu];show EG (BU o.g t u) _ _=_;rw[rF hF hg];show OW (o.i.run P Y f t u .z (n0+r)) _=_;rw[Um hF hv];show bc (Nat.beq (n0+r+1) (Nat.succ (n0+r))) (aM (((Tr.z:AH).set (n0+r) v.2).get (n0+r)) _) .bad=_;rw[Nat.beq_refl,aG];rfl
    rw[this];exact yS k hF e
   .rename_i hg
    have:lG P Y j o f t (Nat.add n0 r) h n vs= .ok (.bN []) h n:=by
     unfold lG;rw[hk];try dsimp only
     rw[yR hu];show EG (BU o.g t u) _ _=_;rw[rF hF hg];rfl
    rw[this];exact yS k hF e
   .exact e.elim
  .rename_i hk
   simp only[hk];split at e
   .rename_i hr
    simp only[hr];obtain⟨v,H',n',e1,e2⟩:=val (v:=none) (λv hv=>⟨_,_,Ck hF (.inr hk) (by rw[if_neg (by rw[hk];decide)];exact hv)⟩) e;rw[e1];exact e2
   .rename_i hr
    simp only[hr];split at e
    .exact e.elim
    .rename_i x hs'
     obtain⟨v,H',n',e1,e2⟩:=val (v:=none) (λv hv=>⟨_,_,Ck hF (.inr hk) (by rw[if_neg (by rw[hk];decide)];exact hv)⟩) e;dsimp only;rw[e1];exact e2
  .rename_i hk
   simp only[hk];have e1:∃v,JC P j o .z F vs=some v/\dK P Y E k l (j+1) r n0 f h n (v::vs) hs F:=by
    unfold dV at e;split at e
    .exact⟨_,‹_›,e⟩
    .exact e.elim
   obtain⟨v,hv,e2⟩:=e1;have:lG P Y j o f t 0 h n vs= .ok v h n:=Ck hF (.inl hk) (by rw[if_pos hk];exact hv);rw[this];exact yS k hF e2
  .exact e.elim
theorem aj{g:FuncId}{K:Nat}{l:List MQ}{ck:List (Nat×Nat)}{wr:List (Nat×Tmp)}{s:List It}{h:AH}{n:Nat}{Q:PQ}(e:dK P Y ⟨g,sK P Y g 100000,l,ck,wr,s,Q⟩ 100000 l 0 0 n f h (n+K) [] [(0,h)] F):
 SM P Y g (.c (.yM K l ck wr)::s) .bW f h n F Q:=by
 intro t hF;obtain⟨h1,n1,vs,hs,e1,e2,e3⟩:=yS 100000 hF e;unfold dW at e3;split at e3
 case h_2=>exact e3.elim
 rename_i G hG;obtain⟨t',w1,w2⟩:=Ms hG hF;obtain⟨x,h2,n2,t2,F2,g1,g2⟩:=oV _ _ _ _ _ _ _ _ e3 t' w2;refine⟨x,h2,n2,t2,F2,?_,g2⟩;rw[<-g1];show iQ (Fw P Y K l ck wr f h n t) _=_;unfold Fw;rw[show vK P Y l 0 0 f t n h (Nat.add n K) [] [(0,h)]= .ok h1 n1 vs hs from e1];dsimp only;rw[Mq hF e2,bF,w1];rfl
end
end
end
section
variable {P:Program} {Y:YT} {E:DE} {D:DK} {k j r n0:Nat} {b:Bool} {ks:List Nat} {g:Option (MO×Bool)} {i:MI} {l:List MQ} {f:FT} {h:AH} {n:Nat} {vs u:List AV} {hs:List (Nat×AH)} {F:Fm}
@[go_sem ↓] theorem adO {q:FuncId} {S:SK} {all:List MQ} {ck:List (Nat×Nat)} {wr:List (Nat×Tmp)} {s:List It} {Q:PQ}:dK P Y ⟨q,S,all,ck,wr,s,Q⟩ (k+1) [] j r n0 f h n vs hs F=(Qc P all F vs hs ck/\dW ⟨q,S,all,ck,wr,s,Q⟩ (JD all.length wr vs (some F)) f h n):=bD rfl
@[go_sem ↓] theorem akX:dK P Y E (k+1) (⟨3,b,ks,g,i⟩::l) j r n0 f h n vs hs F=d3 P Y (dK P Y E k) (Ij j ks vs) ⟨3,b,ks,g,i⟩ l j r n0 f h n vs hs F:=bD rfl
@[go_sem ↓] theorem akY:dK P Y E (k+1) (⟨2,b,ks,g,i⟩::l) j r n0 f h n vs hs F=d2 (dK P Y E k) (Ij j ks vs) ⟨2,b,ks,g,i⟩ l j r n0 f h n vs hs F:=bD rfl
@[go_sem ↓] theorem akZ:dK P Y E (k+1) (⟨1,true,ks,g,i⟩::l) j r n0 f h n vs hs F=dV (dK P Y E k) (JC P j ⟨1,true,ks,g,i⟩ h F vs) l j r n0 f h n vs hs F:=bD rfl
@[go_sem ↓] theorem ah8 {x:Nat×AH}:dK P Y E (k+1) (⟨1,false,ks,g,i⟩::l) j r n0 f h n vs (x::hs) F=dV (dK P Y E k) (JC P j ⟨1,false,ks,g,i⟩ x.2 F vs) l j r n0 f h n vs (x::hs) F:=bD rfl
@[go_sem ↓] theorem ak0:dK P Y E (k+1) (⟨0,b,ks,g,i⟩::l) j r n0 f h n vs hs F=dV (dK P Y E k) (JC P j ⟨0,b,ks,g,i⟩ .z F vs) l j r n0 f h n vs hs F:=bD rfl
@[go_sem] theorem ak1 {o:MQ}:d3 P Y D (some u) o l j r n0 f h n vs hs F=dG P Y D (gO o.g F u) o.i u l j r n0 f h n vs hs F:=bD rfl
@[go_sem] theorem ak2 {o:MQ}:d2 D (some u) o l j r n0 f h n vs hs F=dA D (gO o.g F u) (P_ o.i (n0+r) F u) l j r n0 f h n vs hs F:=bD rfl
def Sd(w:Bool)(a:Option AV):Option Bool:=match a with|some (.b x)=>some (w==x)|some (.bN _)=>some false|_=>none
@[go_sem] theorem ah9 {w:Bool} {c:List AV}:Sd w (some (.bN c))=some false:=rfl
@[go_sem] theorem adP:Sd true (some (.b true))=some true:=rfl
@[go_sem] theorem adQ:Sd true (some (.b false))=some false:=rfl
@[go_sem] theorem adR:Sd false (some (.b true))=some false:=rfl
@[go_sem] theorem adS:Sd false (some (.b false))=some true:=rfl
@[go_sem] theorem ak3:gO none F u=some true:=rfl
@[go_sem] theorem ak4 {x:MO} {w:Bool}:gO (some (x,w)) F u=Sd w (ev x F u):=rfl
@[go_sem] theorem ak5:dG P Y D (some true) i u l j r n0 f h n vs hs F=dX P Y D i u l j r n0 f h n vs hs F:=bD rfl
@[go_sem] theorem ak6:dG P Y D (some false) i u l j r n0 f h n vs hs F=D l (j+1) r n0 f h n (.bN []::vs) ((j+1,h)::hs) F:=bD rfl
@[go_sem ↓] theorem ah_ {w:Nat} {a x:MO}:dX P Y D (.st w a x) u l j r n0 f h n vs hs F=dT D (ev a F u) (Jz w (ev x F u)) l j r n0 f h n vs hs F:=bD rfl
@[go_sem ↓] theorem adT {e w:Nat} {x y:MO}:dX P Y D (.app e w x y) u l j r n0 f h n vs hs F=dR D (PO e w h n (ev x F u) (ev y F u)) l j r n0 f vs hs F:=bD rfl
@[go_sem ↓] theorem adU {w:Nat} {x y:MO}:dX P Y D (.RY w x y) u l j r n0 f h n vs hs F=dR D (Uc w h n (ev x F u) (ev y F u)) l j r n0 f vs hs F:=bD rfl
@[go_sem ↓] theorem adV {kt:TypeId} {m k x:MO}:dX P Y D (.upd kt m k x) u l j r n0 f h n vs hs F=dR D (Ud P kt h n (ev m F u) (ev k F u) (ev x F u)) l j r n0 f vs hs F:=bD rfl
@[go_sem] theorem adW {v:AV}:dR D (some (.ok v h n)) l j r n0 f vs hs F=D l (j+1) r n0 f h n (v::vs) ((j+1,h)::hs) F:=bD rfl
@[go_sem ↓] theorem abR {q:MO} {cs:List MO}:dX P Y D (.call q cs) u l j r n0 f h n vs hs F=dF Y D (ev q F u) (evs cs F u) l j r n0 f h n vs hs F:=bD rfl
@[go_sem] theorem ak7 {x o:Nat} {c:Option (List AV)}:dT D (some (.p x o)) c l j r n0 f h n vs hs F=dH D x (fE (h.get x) o c) l j r n0 f h n vs hs F:=bD rfl
@[go_sem] theorem ak8 {x:Nat} {a:AO}:dH D x (some a) l j r n0 f h n vs hs F=D l (j+1) r n0 f (h.set x a) n (.bN []::vs) ((j+1,h.set x a)::hs) F:=bD rfl
theorem vP{q:FuncId}{cap c:List AV}:dF Y D (some (.f q cap)) (some c) l j r n0 f h n vs hs F=CW f q (c++cap) h n λv h n=>D l (j+1) r n0 f h n (v::vs) ((j+1,h)::hs) F:=rfl
@[go_sem] theorem ak9 {v:AV}:dV D (some v) l j r n0 f h n vs hs F=D l (j+1) r n0 f h n (v::vs) hs F:=bD rfl
@[go_sem] theorem ak_ {v:AV} {o:AO}:dA D (some true) (some (v,o)) l j r n0 f h n vs hs F=D l (j+1) (r+1) n0 f (h.set (n0+r) o) n (v::vs) hs F:=bD rfl
@[go_sem] theorem ala {v:Option (AV×AO)}:dA D (some false) v l j r n0 f h n vs hs F=D l (j+1) (r+1) n0 f h n (.bN []::vs) hs F:=by cases v<;>rfl
@[go_sem] theorem adX {e:TypeId} {z:List AV} {x:Nat}:P_ (.al e z) x F u=some (.p x 0,.row e z):=rfl
@[go_sem] theorem abS {e w:Nat} {a:MO} {x:Nat}:P_ (.box e w a) x F u=(Jz w (ev a F u)).map λc=>(.p x 0,.row e c):=rfl
@[go_sem] theorem abT {e len:Nat} {z:List AV} {fs:List (Nat×Nat×MO)} {x:Nat}:P_ (.KO e len z fs) x F u=(colE fs F u z).map λc=>(.sl x 0 0 len (some len),.row e c):=rfl
@[go_sem] theorem abU {x:Nat}:P_ .LM x F u=some (.m x,.mp [] 0):=rfl
noncomputable def dvL (P:Program)(u:Option (List AV))(g:Option (MO×Bool))(i:MI)(h:AH)(F:Fm):Option AV:=match u with
 |some l=>Ul (gO g F l) (qR P i h F l)
 |none=>none
@[go_sem] theorem aia {N k:Nat}:JC P N ⟨k,b,ks,g,i⟩ h F vs=dvL P (Ij N ks vs) g i h F:=rfl
@[go_sem] theorem aib:dvL P (some u) g i h F=Ul (gO g F u) (qR P i h F u):=rfl
@[go_sem] theorem aic {v:Option AV}:Ul (some true) v=v:=rfl
@[go_sem] theorem aie {v:Option AV}:Ul (some false) v=some (.bN []):=rfl
@[go_sem] theorem aif {N:Nat}:Ij N [] vs=some []:=rfl
@[go_sem] theorem aii {N k:Nat}:Ij N (k::ks) vs=Cj (nv vs (N - 1 - k)) (Ij N ks vs):=rfl
@[go_sem] theorem aij {all:List MQ}:Qc P all F vs hs []=True:=bD rfl
@[go_sem] theorem aik {all:List MQ} {a p:Nat} {c:List (Nat×Nat)}:Qc P all F vs hs ((a,p)::c)=(Qa P all.length F vs (nq all a) (FK p hs) (nv vs (all.length - 1 - a))/\Qc P all F vs hs c):=bD rfl
@[go_sem] theorem adZ {N:Nat} {H:AH} {v:AV}:Qa P N F vs (some ⟨1,b,ks,g,i⟩) (some H) (some v)=(dvL P (Ij N ks vs) g i H F=some v):=by
 show(1=1/\_)=_;simp only[true_and];rfl
@[go_sem] theorem alb {a:MQ} {l:List MQ}:nq (a::l) 0=some a:=rfl
@[go_sem] theorem alc {a:MQ} {l:List MQ} {k:Nat}:nq (a::l) (k+1)=nq l k:=rfl
@[go_sem] theorem ad1 {p q:Nat} {H:AH}:FK p ((q,H)::hs)=if q=p then some H else FK p hs:=rfl
@[go_sem] theorem ail {N:Nat} {o:Option Fm}:JD N [] vs o=o:=by cases o<;>rfl
@[go_sem] theorem ain {N a:Nat} {d:Tmp} {c:List (Nat×Tmp)}:JD N ((a,d)::c) vs (some F)=JD N c vs (wr1 F d (nv vs (N - 1 - a))):=rfl
@[go_sem] theorem aio {d:Nat} {v:AV}:wr1 F d (some v)=some (pt F d v):=rfl
@[go_sem] theorem ald {q:FuncId} {S:SK} {all:List MQ} {ck:List (Nat×Nat)} {wr:List (Nat×Tmp)} {s:List It} {Q:PQ} {G:Fm}:dW ⟨q,S,all,ck,wr,s,Q⟩ (some G) f h n=S s .bW f h n G Q:=bD rfl
@[go_sem] theorem ad2 {x:MO}:qR P (.mv x) h F u=ev x F u:=rfl
@[go_sem] theorem Yu {c a b:MO}:qR P (.pick c a b) h F u=wL (ev c F u) (ev a F u) (ev b F u):=rfl
@[go_sem] theorem abW {z:List AV} {fs:List (Nat×Nat×MO)}:qR P (.Ic z fs) h F u=(colE fs F u z).map .agg:=rfl
@[go_sem] theorem ad3 {w:Option Nat} {a:MO}:qR P (.ld w a) h F u=R8 h (ev a F u) w:=rfl
@[go_sem] theorem abX {op:BinOp} {ty:TypeId} {x y:MO}:qR P (.bin op ty x y) h F u=X9 P op ty (ev x F u) (ev y F u):=rfl
@[go_sem] theorem abY {x:MO}:qR P (.not x) h F u=L6 (ev x F u):=rfl
@[go_sem] theorem ad4 {o:Nat} {x:MO}:qR P (.fa o x) h F u=XR o (ev x F u):=rfl
@[go_sem] theorem abZ {w:Option Nat} {o:Nat} {x:MO}:qR P (.RX w o x) h F u=L8 w o (ev x F u):=rfl
@[go_sem] theorem ab0 {ty:TypeId} {x:MO}:qR P (.RS ty x) h F u=(ev x F u).map (.zP ty):=rfl
@[go_sem] theorem ab1 {q:FuncId} {cs:List MO}:qR P (.Fq q cs) h F u=(evs cs F u).map (.f q):=rfl
@[go_sem] theorem ab2 {x:MO} {k:Nat}:qR P (.ext x k) h F u=L9 k (ev x F u):=rfl
@[go_sem] theorem Yv {x:MO}:qR P (.DR x) h F u=XT (ev x F u):=rfl
@[go_sem] theorem Yw {x:MO}:qR P (.gW x) h F u=Jy (ev x F u):=rfl
@[go_sem] theorem ab3 {x:MO}:qR P (.neg x) h F u=XU (ev x F u):=rfl
@[go_sem] theorem ab4 {x:MO} {k:IntKind}:qR P (.LK k x) h F u=XV k (ev x F u):=rfl
@[go_sem] theorem ab5 {x:MO}:qR P (.RQ x) h F u=XW (ev x F u):=rfl
@[go_sem] theorem ab6 {x:MO}:qR P (.RP x) h F u=Fx (ev x F u):=rfl
@[go_sem] theorem ab7 {w:Nat} {x:MO} {lo hi:Option MO}:qR P (.RU w x lo hi) h F u=XZ w (ev x F u) (zS lo F u) (zS hi F u):=rfl
@[go_sem] theorem Yx {kt:TypeId} {z:Option AV} {x k:MO} {ok:Bool}:qR P (.look kt z x k ok) h F u=Ww P kt z ok h (ev x F u) (ev k F u):=rfl
@[go_sem] theorem ab8 {w m:Nat} {x k:MO}:qR P (.Pz w m x k) h F u=L_ w m (ev x F u) (ev k F u):=rfl
@[go_sem] theorem ab9 {x k:MO}:qR P (.zR x k) h F u=Ma (ev x F u) (ev k F u):=rfl
@[go_sem] theorem ab_ {w m:Nat} {x:MO} {lo hi:Option MO}:qR P (.RV w m x lo hi) h F u=JA w m (ev x F u) (zS lo F u) (zS hi F u):=rfl
@[go_sem] theorem acd {x:MO} {lo hi:Option MO}:qR P (.OX x lo hi) h F u=X3 (ev x F u) (zS lo F u) (zS hi F u):=rfl
@[go_sem] theorem Yy {x:MO}:qR P (.DT x) h F u=lmO h (ev x F u):=rfl
@[go_sem] theorem ace {x:MO}:qR P (.KP x) h F u=T_ h (ev x F u):=rfl
@[go_sem] theorem ad5 {x y:MO}:qR P (.mx x y) h F u=X6 (ev x F u) (ev y F u):=rfl
@[go_sem] theorem ad6 {x y:MO}:qR P (.mn x y) h F u=X8 (ev x F u) (ev y F u):=rfl
@[go_sem] theorem acf {w:Nat} {x k:MO}:qR P (.iM w x k) h F u=fu w (ev x F u) (ev k F u):=rfl
end
section
variable {F:Fm} {l c:List AV}
def Un(r:List (Nat×Nat×MO))(F:Fm)(l:List AV)(c:Option (List AV)):Option (List AV):=match c with
 |some c=>colE r F l c
 |none=>none
def spS(u:Option (List AV))(o:Nat)(c:List AV):Option (List AV):=match u with
 |some u=>oz u o c
 |none=>none
@[go_sem] theorem ad8:colE [] F l c=some c:=rfl
@[go_sem] theorem ad9 {o w:Nat} {x:MO} {r:List (Nat×Nat×MO)}:colE ((o,w,x)::r) F l c=Un r F l (spS (Jz w (ev x F l)) o c):=by
 rw[colE];unfold Un spS Jz;cases ev x F l with
 |none=>rfl
 |some v=>
  dsimp only;cases qM v with
  |none=>rfl
  |some u=>
   dsimp only;by_cases h:u.length=w
   .rw[if_pos h,if_pos h];dsimp only;cases oz u o c<;>rfl
   .rw[if_neg h,if_neg h]
@[go_sem] theorem ad_ {r:List (Nat×Nat×MO)}:Un r F l (some c)=colE r F l c:=rfl
@[go_sem] theorem aip {u:List AV} {o:Nat}:spS (some u) o c=oz u o c:=rfl
end
@[reducible] def xP (ty i L c B B1:Nat) (body:MC):MC:=.loop (.seq (.reg [⟨none,.bin .lss ty (.s i) (.s L),.k c⟩]) (.seq (.cond (.s c) .skip (.exit B)) (.seq (.blk B1 body) (.reg [⟨none,.bin .add ty (.s i) (.c (.i .i64 1)),.l⟩,⟨none,.mv (.v 0),.k i⟩]))))
section
variable {P:Program} {Y:YT} {g:FuncId} {f:FT}
def Sg(P:Program)(Y:YT)(g:FuncId)(I:Nat->AH->Nat->Fm->Prop)(k i L N B1:Nat)(s:List It)(f:FT)(Q:PQ):PQ:=λx h n F=>match x with
 | .bW=>lk F i=some (.i .i64 (k:Nat))/\lk F L=some (.i .i64 (N:Nat))/\∃G,I (k+1) h n G/\∀m v,lk G m=some v->lk F m=some v
 | .exit j=>if j=B1 then lk F i=some (.i .i64 (k:Nat))/\lk F L=some (.i .i64 (N:Nat))/\∃G,I (k+1) h n G/\∀m v,lk G m=some v->lk F m=some v else sK P Y g 100000 s (.exit j) f h n F Q
 |x=>sK P Y g 100000 s x f h n F Q
theorem bX{ty i L c B B1:Nat}{body:MC}{s:List It}{Q:PQ}{h:AH}{n:Nat}{F:Fm}(N:Nat)(I:Nat->AH->Nat->Fm->Prop)(hN:N<=1125899906842623)(hic:i≠c)(hLc:L≠c)(hiL:i≠L)
 (hfr:∀k h n G,I k h n G->lk G c=none/\lk G i=none)
 (h0:lk F i=some (.i .i64 0)/\lk F L=some (.i .i64 (N:Nat))/\∃G,I 0 h n G/\∀m v,lk G m=some v->lk F m=some v)
 (step:∀k h n G,k<N->I k h n G->sK P Y g 100000 [.c body] .bW f h n (pt (pt G L (.i .i64 (N:Nat))) i (.i .i64 (k:Nat))) (Sg P Y g I k i L N B1 s f Q))
 (fin:∀h n G,I N h n G->sK P Y g 100000 s (.exit B) f h n G Q):SM P Y g (.c (xP ty i L c B B1 body)::s) .bW f h n F Q:=by
 refine DW (λm h n F=>∃k,k<=N/\m=N - k/\lk F i=some (.i .i64 (k:Nat))/\lk F L=some (.i .i64 (N:Nat))/\∃G,I k h n G/\∀m v,lk G m=some v->lk F m=some v) N hN ⟨F,⟨0,Nat.zero_le _,rfl,h0⟩,λ_ _ e=>e⟩ ?_;rintro m h n F ⟨k,hk,rfl,e1,e2,G,hI,hG⟩ t hF;obtain⟨f1,f2⟩:=hfr k h n G hI;have t1:=hF i _ e1;have t2:=hF L _ e2;have r1:(MC.reg [⟨none,.bin .lss ty (.s i) (.s L),.k c⟩]).run P Y g f h n t= .ok .bW h n ((pp 20 c).run (.b (decide ((k:Int)<(N:Int)))) t):=by
  show oU P Y _ f h n t []=_;rw[oU];show mW (aM ((gp 20 i).run t) λx=>aM ((gp 20 L).run t) λy=>ok1 ((dY P ty .lss).run x y) h n) _=_;rw[lC,t1];show mW (aM ((gp 20 L).run t) λy=>ok1 ((dY P ty .lss).run _ y) h n) _=_;rw[lC,t2];show mW (ok1 ((dY P ty .lss).run (.i .i64 k) (.i .i64 N)) h n) _=_;rw[P8];rfl
 have gc:∀t0:Tr AV,gN (.s c) ((pp 20 c).run (.b (decide ((k:Int)<(N:Int)))) t0) []=some (.b (decide ((k:Int)<(N:Int)))):=λt0=>by
  show(gp 20 c).run _=_;rw[lC,jh,if_pos rfl]
 have hG1:Fk ((pp 20 c).run (.b (decide ((k:Int)<(N:Int)))) t) G:=λm v e=>by
  rw[jh,if_neg (λe0=>by rw[e0,f1]at e;cases e)];exact hF m v (hG m v e)
 have out:∀r:fq,(MC.seq (.reg [⟨none,.bin .lss ty (.s i) (.s L),.k c⟩]) (.seq (.cond (.s c) .skip (.exit B)) (.seq (.blk B1 body) (.reg [⟨none,.bin .add ty (.s i) (.c (.i .i64 1)),.l⟩,⟨none,.mv (.v 0),.k i⟩])))).run P Y g f h n t=r->
  iQ ((MC.seq (.reg [⟨none,.bin .lss ty (.s i) (.s L),.k c⟩]) (.seq (.cond (.s c) .skip (.exit B)) (.seq (.blk B1 body) (.reg [⟨none,.bin .add ty (.s i) (.c (.i .i64 1)),.l⟩,⟨none,.mv (.v 0),.k i⟩])))).run P Y g f h n t) (λx h n t=>nG P Y g [] x f h n t)=r:=λr e=>by
  rw[e];cases r<;>rfl
 by_cases hlt:k<N
 .have hd:decide ((k:Int)<(N:Int))=true:=decide_eq_true (by omega)
  have hF2:Fk ((pp 20 c).run (.b (decide ((k:Int)<(N:Int)))) t) (pt (pt G L (.i .i64 (N:Nat))) i (.i .i64 (k:Nat))):=λm v e=>by
   rw[fQ,fQ]at e;split at e
   .cases e;subst_vars;rw[jh,if_neg hic];exact t1
   .split at e
    .cases e;subst_vars;rw[jh,if_neg hLc];exact t2
    .exact hG1 m v e
  obtain⟨x,h1,n1,t3,F3,b1,b2,b3⟩:=oV _ _ _ _ _ _ _ _ (step k h n G hlt hI) _ hF2;obtain⟨x0,h0',n0',t0',b0,b1⟩:=ji (show iQ (body.run P Y g f h n _) (λx h n t=>nG P Y g [] x f h n t)= .ok x h1 n1 t3 from b1);cases b1
  have head:∀r:fq,iQ (iQ (body.run P Y g f h n ((pp 20 c).run (.b (decide ((k:Int)<(N:Int)))) t)) λx h n t=>match x with
   | .exit j=>bc (Nat.beq j B1) (.ok .bW h n t) (.ok (.exit j) h n t)
   |x=>.ok x h n t) (λx h n t=>Df x ((MC.reg [⟨none,.bin .add ty (.s i) (.c (.i .i64 1)),.l⟩,⟨none,.mv (.v 0),.k i⟩]).run P Y g f h n t) (.ok x h n t))=r->
   (MC.seq (.reg [⟨none,.bin .lss ty (.s i) (.s L),.k c⟩]) (.seq (.cond (.s c) .skip (.exit B)) (.seq (.blk B1 body) (.reg [⟨none,.bin .add ty (.s i) (.c (.i .i64 1)),.l⟩,⟨none,.mv (.v 0),.k i⟩])))).run P Y g f h n t=r:=λr e=>by
   rw[<-e];show iQ ((MC.reg _).run P Y g f h n t) _=_;rw[r1];show iQ (match gN (.s c) _ []with|some (.b x)=>bc x (fq.ok .bW h n _) (.ok (.exit B) h n _)|_=>.bad) _=_;rw[gc,hd];rfl
  rw[b0]at head
  -- the next round
  have next:(lk F3 i=some (.i .i64 (k:Nat))/\lk F3 L=some (.i .i64 (N:Nat))/\∃G,I (k+1) h1 n1 G/\∀m v,lk G m=some v->lk F3 m=some v)->
   (MC.reg [⟨none,.bin .add ty (.s i) (.c (.i .i64 1)),.l⟩,⟨none,.mv (.v 0),.k i⟩]).run P Y g f h1 n1 t3= .ok .bW h1 n1 ((pp 20 i).run (.i .i64 ((k+1:Nat):Int)) t3)/\Fk ((pp 20 i).run (.i .i64 ((k+1:Nat):Int)) t3) (pt F3 i (.i .i64 ((k+1:Nat):Int)))/\
    WA P Y g (λm h n F=>∃k,k<=N/\m=N - k/\lk F i=some (.i .i64 (k:Nat))/\lk F L=some (.i .i64 (N:Nat))/\∃G,I k h n G/\∀m v,lk G m=some v->lk F m=some v) (N - k) s f Q .bW h1 n1 (pt F3 i (.i .i64 ((k+1:Nat):Int))):=by
   rintro⟨c1,c2,G',c3,c4⟩;refine⟨?_,b2.put _ _,⟨N - (k+1),_,by omega,⟨k+1,by omega,rfl,by rw[fQ,if_pos rfl],by rw[fQ,if_neg (λe=>hiL e.symm)];exact c2,G',c3,λm v e=>?_⟩,λ_ _ e=>e⟩⟩
   .show oU P Y _ f h1 n1 t3 []=_
    rw[oU];show mW (aM ((gp 20 i).run t3) λx=>aM (some (AV.i .i64 1)) λy=>ok1 ((dY P ty .add).run x y) h1 n1) _=_;rw[lC,b2 i _ c1];show mW (ok1 ((dY P ty .add).run (.i .i64 k) (.i .i64 1)) h1 n1) _=_;rw[P9,dN (by omega) (by omega)];rfl
   .rw[fQ,if_neg (λe0=>by rw[e0,(hfr _ _ _ _ c3).2]at e;cases e)]
    exact c4 m v e
  cases x with
  |bW=>
   obtain⟨n1',n2,n3⟩:=next b3;refine⟨_,_,_,_,_,out _ (head _ ?_),n2,n3⟩;exact n1'
  |exit j=>
   by_cases hj:j=B1
   .obtain⟨n1',n2,n3⟩:=next (by have b3:(if j=B1 then _ else _):=b3;rw[if_pos hj]at b3;exact b3)
    refine⟨_,_,_,_,_,out _ (head _ ?_),n2,n3⟩;show iQ (bc (Nat.beq j B1) (fq.ok .bW h1 n1 t3) (.ok (.exit j) h1 n1 t3)) _=_;rw[hj,Nat.beq_refl];exact n1'
   .refine⟨.exit j,h1,n1,_,F3,out _ (head _ ?_),b2,?_⟩
    .show iQ (bc (Nat.beq j B1) (fq.ok .bW h1 n1 t3) (.ok (.exit j) h1 n1 t3)) _=_
     have:Nat.beq j B1=false:=by
      cases e:Nat.beq j B1 with
      |false=>rfl
      |true=>exact absurd (beq_eq e) hj
     rw[this];rfl
    .have b3:(if j=B1 then _ else sK P Y g 100000 s (.exit j) f h1 n1 F3 Q):=b3
     rw[if_neg hj]at b3;exact b3
  |goto j=>exact⟨.goto j,h1,n1,_,F3,out _ (head _ rfl),b2,b3⟩
  |ret=>exact⟨.ret,h1,n1,_,F3,out _ (head _ rfl),b2,b3⟩
 .obtain rfl:k=N:=by omega
  have hd:decide ((k:Int)<(k:Int))=false:=by simp
  refine⟨.exit B,h,n,_,G,out _ ?_,hG1,fin h n G hI⟩;show iQ ((MC.reg _).run P Y g f h n t) _=_;rw[r1];show iQ (match gN (.s c) _ []with|some (.b x)=>bc x (fq.ok .bW h n _) (.ok (.exit B) h n _)|_=>.bad) _=_;rw[gc,hd];rfl
@[reducible] def nl (i:MI):MR:=⟨none,i,.l⟩
@[reducible] def nk (k:Nat) (i:MI):MR:=⟨none,i,.k k⟩
@[reducible] def ng (k:Nat) (b:Bool) (i:MI):MR:=⟨some (.v k,b),i,.l⟩
@[reducible] def mq (k:Nat) (ks:List Nat) (i:MI):MQ:=⟨k,true,ks,none,i⟩
end
end Go.Proofs.YtjoohkjmoghmoaaGreatDoor

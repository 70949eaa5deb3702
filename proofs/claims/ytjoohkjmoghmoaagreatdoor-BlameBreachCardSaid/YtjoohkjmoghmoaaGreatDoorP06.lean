/- part -/
import Derived.Test.YtjoohkjmoghmoaaGreatDoorP05
set_option linter.all false
namespace Go.Proofs.YtjoohkjmoghmoaaGreatDoor
section
section
variable {P:Program} {Y:YT} {g:FuncId} {f:FT} {h:AH} {n k:Nat} {F:Fm} {l:List AV} {s:List It} {r:List MR} {Q:PQ} {S:SK} {d:MD} {x:Ex}
@[go_sem ↓] theorem acV:sK P Y g (k+1) [] x f h n F Q=Q x h n F:=bC rfl
@[go_sem ↓] theorem aj6 {id:Nat}:sK P Y g (k+1) (.b id::s) x f h n F Q=sK P Y g k s (TM x id) f h n F Q:=bC rfl
@[go_sem ↓] theorem aaM:sK P Y g (k+1) (.c .skip::s) .bT f h n F Q=sK P Y g k s .bT f h n F Q:=bC rfl
@[go_sem ↓] theorem acW:sK P Y g (k+1) (.c (.reg r)::s) .bT f h n F Q=sK P Y g k (.r r []::s) .bT f h n F Q:=bC rfl
@[go_sem ↓] theorem acX {a b:MC}:sK P Y g (k+1) (.c (.seq a b)::s) .bT f h n F Q=sK P Y g k (.c a:: .c b::s) .bT f h n F Q:=bC rfl
@[go_sem ↓] theorem aaN {c:MO} {a b:MC}:sK P Y g (k+1) (.c (.cond c a b)::s) .bT f h n F Q=kB (sK P Y g k) (ev c F []) a b s f h n F Q:=bC rfl
@[go_sem ↓] theorem acY {id:Nat} {a:MC}:sK P Y g (k+1) (.c (.blk id a)::s) .bT f h n F Q=sK P Y g k (.c a:: .b id::s) .bT f h n F Q:=bC rfl
@[go_sem ↓] theorem aaO {id:Nat}:sK P Y g (k+1) (.c (.exit id)::s) .bT f h n F Q=sK P Y g k s (.exit id) f h n F Q:=bC rfl
@[go_sem ↓] theorem acZ:sK P Y g (k+1) (.c .ret::s) .bT f h n F Q=sK P Y g k s .ret f h n F Q:=bC rfl
@[go_sem ↓] theorem aaP {a:MC}:sK P Y g (k+1) (.c (.loop a)::s) .bT f h n F Q=SM P Y g (.c (.loop a)::s) .bT f h n F Q:=bC rfl
@[go_sem ↓] theorem ac0 {a:MO} {b:List Tmp} {c d:Code}:sK P Y g (k+1) (.c (.rng a b c d)::s) .bT f h n F Q=SM P Y g (.c (.rng a b c d)::s) .bT f h n F Q:=bC rfl
@[go_sem ↓] theorem ac1 {a:Nat} {b:List MQ} {c:List (Nat×Nat)} {d:List (Nat×Tmp)}:sK P Y g (k+1) (.c (.Aj a b c d)::s) .bT f h n F Q=SM P Y g (.c (.Aj a b c d)::s) .bT f h n F Q:=bC rfl
@[go_sem ↓] theorem agO {id:Nat} {m:MC}:sK P Y g (k+1) (.c m::s) (.exit id) f h n F Q=sK P Y g k s (.exit id) f h n F Q:=bC rfl
@[go_sem ↓] theorem agP {m:MC}:sK P Y g (k+1) (.c m::s) .ret f h n F Q=sK P Y g k s .ret f h n F Q:=bC rfl
@[go_sem ↓] theorem agQ:sK P Y g (k+1) (.r [] l::s) x f h n F Q=sK P Y g k s x f h n F Q:=bC rfl
@[go_sem ↓] theorem agR {i:MI}:sK P Y g (k+1) (.r (⟨none,i,d⟩::r) l::s) .bT f h n F Q=jv P Y (sK P Y g k) i d r l s f h n F Q:=bC rfl
def kW(P:Program)(Y:YT)(S:SK)(o:Option AV)(w:Bool)(i:MI)(d:MD)(r:List MR)(l:List AV)(s:List It)(f:FT)(h:AH)(n:Nat)(F:Fm)(Q:PQ):Prop:=match o with
 |some (.b x)=>kG S (some (w==x)) i d r l s f h n F Q (jv P Y)
 |some (.bQ _)=>mP S d (.bQ []) r l s f h n F Q
 |_=>False
@[go_sem ↓] theorem agS {a:MO} {w:Bool} {i:MI}:sK P Y g (k+1) (.r (⟨some (a,w),i,d⟩::r) l::s) .bT f h n F Q=kW P Y (sK P Y g k) (ev a F l) w i d r l s f h n F Q:=by
 show kG (sK P Y g k) (gO (some (a,w)) F l) i d r l s f h n F Q (jv P Y)=_;unfold gO kW;dsimp only;cases ev a F l with
 |none=>rfl
 |some v=>cases v<;>rfl
@[go_sem] theorem aj7 {i:MI} {w:Bool} {c:List AV}:kW P Y S (some (.bQ c)) w i d r l s f h n F Q=mP S d (.bQ []) r l s f h n F Q:=bC rfl
@[go_sem] theorem agT {i:MI}:kW P Y S (some (.b true)) true i d r l s f h n F Q=jv P Y S i d r l s f h n F Q:=bC rfl
@[go_sem] theorem agU {i:MI}:kW P Y S (some (.b false)) false i d r l s f h n F Q=jv P Y S i d r l s f h n F Q:=bC rfl
@[go_sem] theorem agV {i:MI}:kW P Y S (some (.b true)) false i d r l s f h n F Q=mP S d (.bQ []) r l s f h n F Q:=bC rfl
@[go_sem] theorem agW {i:MI}:kW P Y S (some (.b false)) true i d r l s f h n F Q=mP S d (.bQ []) r l s f h n F Q:=bC rfl
@[go_sem] theorem aj8 {a b:MC}:kB S (some (.b true)) a b s f h n F Q=S (.c a::s) .bT f h n F Q:=bC rfl
@[go_sem] theorem aj9 {a b:MC}:kB S (some (.b false)) a b s f h n F Q=S (.c b::s) .bT f h n F Q:=bC rfl
@[go_sem] theorem agX {v:AV}:mP S .n v r l s f h n F Q=S (.r r l::s) .bT f h n F Q:=bC rfl
@[go_sem] theorem agY {v:AV}:mP S .l v r l s f h n F Q=S (.r r (v::l)::s) .bT f h n F Q:=bC rfl
def kP(S:SK)(G:Fm)(r:List MR)(l:List AV)(s:List It)(f:FT)(h:AH)(n:Nat)(Q:PQ):Prop:=S (.r r l::s) .bT f h n G Q
@[go_sem ↓] theorem agZ {v:AV} {e:Nat}:mP S (.k e) v r l s f h n F Q=kP S (pt F e v) r l s f h n Q:=bC rfl
@[go_sem] theorem aj_:kP S F r l s f h n Q=S (.r r l::s) .bT f h n F Q:=rfl
@[go_sem] theorem akb {v:AV}:kS S (some v) d r l s f h n F Q=mP S d v r l s f h n F Q:=bC rfl
@[go_sem] theorem akc {c:List AV} {e:TypeId} {v:AV}:kC S (some c) e v d r l s f h n F Q=mP S d v r l s f (h.set n (.row e c)) (n+1) F Q:=bC rfl
@[go_sem] theorem akd {b:Nat} {a:AO}:kH S b (some a) d r l s f h n F Q=mP S d (.bQ []) r l s f (h.set b a) n F Q:=bC rfl
@[go_sem] theorem ake {b o:Nat} {u:Option (List AV)}:kT S (some (.p b o)) u d r l s f h n F Q=kH S b (fu (h.get b) o u) d r l s f h n F Q:=bC rfl
theorem Fu{q:FuncId}{cap c:List AV}:kF Y S (some (.f q cap)) (some c) d r l s f h n F Q=CW f q (c++cap) h n λv h n=>mP S d v r l s f h n F Q:=rfl
theorem vH{q:Nat}{c:List AV}:kF Y S (some (.y q)) (some c) d r l s f h n F Q=RW (Y q c f h n) λv h n=>mP S d v r l s f h n F Q:=rfl
@[go_sem ↓] theorem ac2 {e:TypeId} {z:List AV}:jv P Y S (.al e z) d r l s f h n F Q=kC S (some z) e (.p n 0) d r l s f h n F Q:=bC rfl
@[go_sem ↓] theorem aaQ {e w:Nat} {x:MO}:jv P Y S (.box e w x) d r l s f h n F Q=kC S (Jm w (ev x F l)) e (.p n 0) d r l s f h n F Q:=bC rfl
@[go_sem ↓] theorem aaR {e len:Nat} {z:List AV} {fs:List (Nat×Nat×MO)}:jv P Y S (.KH e len z fs) d r l s f h n F Q=kC S (colE fs F l z) e (.sl n 0 0 len (some len)) d r l s f h n F Q:=bC rfl
@[go_sem ↓] theorem ac3 {w:Nat} {a x:MO}:jv P Y S (.st w a x) d r l s f h n F Q=kT S (ev a F l) (Jm w (ev x F l)) d r l s f h n F Q:=bC rfl
@[go_sem ↓] theorem aaS:jv P Y S .LA d r l s f h n F Q=mP S d (.m n) r l s f (h.set n (.mp [] 0)) (n+1) F Q:=bC rfl
@[go_sem ↓] theorem aaT {w:Nat} {x i:MO}:jv P Y S (.jc w x i) d r l s f h n F Q=RQ S w (ev x F l) (ev i F l) d r l s f h n F Q:=bC rfl
@[go_sem ↓] theorem XQ {q:MO} {c:List MO}:jv P Y S (.call q c) d r l s f h n F Q=kF Y S (ev q F l) (evs c F l) d r l s f h n F Q:=bC rfl
@[go_sem ↓] theorem ac4 {x:MO}:jv P Y S (.mv x) d r l s f h n F Q=kS S (ev x F l) d r l s f h n F Q:=bC rfl
@[go_sem ↓] theorem XR {c a b:MO}:jv P Y S (.pick c a b) d r l s f h n F Q=kS S (wF (ev c F l) (ev a F l) (ev b F l)) d r l s f h n F Q:=bC rfl
@[go_sem ↓] theorem aaU {z:List AV} {fs:List (Nat×Nat×MO)}:jv P Y S (.Hz z fs) d r l s f h n F Q=kS S ((colE fs F l z).map .agg) d r l s f h n F Q:=bC rfl
@[go_sem ↓] theorem ac5 {w:Option Nat} {a:MO}:jv P Y S (.ld w a) d r l s f h n F Q=kS S (RO h (ev a F l) w) d r l s f h n F Q:=bC rfl
@[go_sem ↓] theorem aaV {op:BinOp} {ty:TypeId} {x y:MO}:jv P Y S (.bin op ty x y) d r l s f h n F Q=kS S (XH P op ty (ev x F l) (ev y F l)) d r l s f h n F Q:=bC rfl
@[go_sem ↓] theorem aaW {x:MO}:jv P Y S (.not x) d r l s f h n F Q=kS S (LP (ev x F l)) d r l s f h n F Q:=bC rfl
@[go_sem ↓] theorem ac6 {o:Nat} {x:MO}:jv P Y S (.fa o x) d r l s f h n F Q=kS S (Xx o (ev x F l)) d r l s f h n F Q:=bC rfl
@[go_sem ↓] theorem aaX {w:Option Nat} {o:Nat} {x:MO}:jv P Y S (.RA w o x) d r l s f h n F Q=kS S (LQ w o (ev x F l)) d r l s f h n F Q:=bC rfl
@[go_sem ↓] theorem aaY {ty:TypeId} {x:MO}:jv P Y S (.Rx ty x) d r l s f h n F Q=kS S ((ev x F l).map (.zH ty)) d r l s f h n F Q:=bC rfl
@[go_sem ↓] theorem aaZ {q:FuncId} {cs:List MO}:jv P Y S (.HV q cs) d r l s f h n F Q=kS S ((evs cs F l).map (.f q)) d r l s f h n F Q:=bC rfl
@[go_sem ↓] theorem aa0 {x:MO} {i:Nat}:jv P Y S (.ext x i) d r l s f h n F Q=kS S (LU i (ev x F l)) d r l s f h n F Q:=bC rfl
@[go_sem ↓] theorem XT {x:MO}:jv P Y S (.Du x) d r l s f h n F Q=kS S (Xz (ev x F l)) d r l s f h n F Q:=bC rfl
@[go_sem ↓] theorem aa1 {x:MO}:jv P Y S (.neg x) d r l s f h n F Q=kS S (XA (ev x F l)) d r l s f h n F Q:=bC rfl
@[go_sem ↓] theorem aa2 {x:MO} {k:IntKind}:jv P Y S (.Lx k x) d r l s f h n F Q=kS S (XB k (ev x F l)) d r l s f h n F Q:=bC rfl
@[go_sem ↓] theorem aa3 {x:MO}:jv P Y S (.Rw x) d r l s f h n F Q=kS S (XC (ev x F l)) d r l s f h n F Q:=bC rfl
@[go_sem ↓] theorem aa4 {x:MO}:jv P Y S (.Rv x) d r l s f h n F Q=kS S (Fb (ev x F l)) d r l s f h n F Q:=bC rfl
@[go_sem ↓] theorem aa5 {w:Nat} {x:MO} {lo hi:Option MO}:jv P Y S (.Ry w x lo hi) d r l s f h n F Q=kS S (XD w (ev x F l) (zK lo F l) (zK hi F l)) d r l s f h n F Q:=bC rfl
@[go_sem ↓] theorem aa6 {x:MO} {lo hi:Option MO}:jv P Y S (.Oz x lo hi) d r l s f h n F Q=kS S (XE (ev x F l) (zK lo F l) (zK hi F l)) d r l s f h n F Q:=bC rfl
@[go_sem ↓] theorem XU {x:MO}:jv P Y S (.Dv x) d r l s f h n F Q=kS S (lmO h (ev x F l)) d r l s f h n F Q:=bC rfl
@[go_sem ↓] theorem XV {kt:TypeId} {z:Option AV} {x k:MO} {ok:Bool}:jv P Y S (.look kt z x k ok) d r l s f h n F Q=kS S (V5 P kt z ok h (ev x F l) (ev k F l)) d r l s f h n F Q:=bC rfl
@[go_sem ↓] theorem aa7 {w m:Nat} {x k:MO}:jv P Y S (.Pg w m x k) d r l s f h n F Q=kS S (LV w m (ev x F l) (ev k F l)) d r l s f h n F Q:=bC rfl
@[go_sem ↓] theorem aa8 {x k:MO}:jv P Y S (.zJ x k) d r l s f h n F Q=kS S (LW (ev x F l) (ev k F l)) d r l s f h n F Q:=bC rfl
@[go_sem ↓] theorem aa9 {lw:Option Nat} {w m:Nat} {x k:MO}:jv P Y S (.TF lw w m x k) d r l s f h n F Q=kS S (TL lw w m (ev x F l) (ev k F l)) d r l s f h n F Q:=bC rfl
@[go_sem ↓] theorem aa_ {w m:Nat} {x:MO} {lo hi:Option MO}:jv P Y S (.Rz w m x lo hi) d r l s f h n F Q=kS S (Jo w m (ev x F l) (zK lo F l) (zK hi F l)) d r l s f h n F Q:=bC rfl
@[go_sem ↓] theorem XW {m:Nat} {x:MO}:jv P Y S (.E9 m x) d r l s f h n F Q=kS S ((ev x F l).map λ_=>.i .i64 (m:Nat)) d r l s f h n F Q:=bC rfl
@[go_sem ↓] theorem ac7 {x y:MO}:jv P Y S (.mx x y) d r l s f h n F Q=kS S (XF (ev x F l) (ev y F l)) d r l s f h n F Q:=bC rfl
@[go_sem ↓] theorem ac8 {x y:MO}:jv P Y S (.mn x y) d r l s f h n F Q=kS S (XG (ev x F l) (ev y F l)) d r l s f h n F Q:=bC rfl
@[go_sem ↓] theorem abb {x:MO}:jv P Y S (.KI x) d r l s f h n F Q=kS S (TK h (ev x F l)) d r l s f h n F Q:=bC rfl
@[go_sem ↓] theorem abd {e w:Nat} {x y:MO}:jv P Y S (.app e w x y) d r l s f h n F Q=kR S (Po e w h n (ev x F l) (ev y F l)) d r l s f F Q:=bC rfl
@[go_sem ↓] theorem abe {w:Nat} {x y:MO}:jv P Y S (.RF w x y) d r l s f h n F Q=kR S (TN w h n (ev x F l) (ev y F l)) d r l s f F Q:=bC rfl
@[go_sem ↓] theorem abf {kt:TypeId} {m k x:MO}:jv P Y S (.upd kt m k x) d r l s f h n F Q=kR S (TP P kt h n (ev m F l) (ev k F l) (ev x F l)) d r l s f F Q:=bC rfl
@[go_sem ↓] theorem abg {e:TypeId} {z:List AV} {x y:MO}:jv P Y S (.Jh e z x y) d r l s f h n F Q=kR S (XI e z h n (ev x F l) (ev y F l)) d r l s f F Q:=bC rfl
@[go_sem] theorem ac9 {v:AV} {h':AH} {n':Nat}:kR S (some (.ok v h' n')) d r l s f F Q=mP S d v r l s f h' n' F Q:=bC rfl
@[go_sem] theorem XZ {e w:Nat} {x y:AV}:Po e w h n (some x) (some y)=some ((jq e w).run h n x y):=rfl
@[go_sem] theorem ag1 {w:Nat} {x y:AV}:TN w h n (some x) (some y)=some (qU w h n x y):=rfl
@[go_sem] theorem ag2 {kt:TypeId} {m k x:AV}:TP P kt h n (some m) (some k) (some x)=some (CV (qQ P 30 kt) (xQ P 30 kt) h n m k x):=rfl
@[go_sem] theorem ag3 {k:IntKind} {v:Int}:XA (some (.i k v))=some (.i k (gK k (0 - v))):=rfl
@[go_sem] theorem ag4 {k j:IntKind} {v:Int}:XB k (some (.i j v))=some (.i k (gK k v)):=rfl
@[go_sem] theorem ag5 {c:List UInt8}:XC (some (.s c))=some (.s c):=rfl
@[go_sem] theorem ac_ {b o:Nat}:Fb (some (.p b o))=some (.p b o):=rfl
@[go_sem] theorem ada {q:FuncId} {c:List AV}:Fb (some (.f q c))=some (.f q c):=rfl
@[go_sem] theorem adb {q:Nat}:Fb (some (.y q))=some (.y q):=rfl
@[go_sem] theorem ag6:zK none F l=some none:=rfl
def evj(a:Option AV):Option (Option Int):=match a with|some (.i _ n)=>some (some n)|_=>none
@[go_sem] theorem ag8 {k:IntKind} {v:Int}:evj (some (.i k v))=some (some v):=rfl
@[go_sem] theorem ag9 {x:MO}:zK (some x) F l=evj (ev x F l):=rfl
@[go_sem] theorem ag_ {kt:TypeId} {z:Option AV} {ok:Bool} {x k:AV}:V5 P kt z ok h (some x) (some k)=lookO (qQ P 30 kt) (xQ P 30 kt) z ok h x k:=rfl
@[go_sem ↓] theorem X3 {x:MO}:jv P Y S (.iE x) d r l s f h n F Q=kS S (Jl (ev x F l)) d r l s f h n F Q:=bC rfl
@[go_sem] theorem aha {id:Nat}:TM .bT id= .bT:=rfl
@[go_sem] theorem ahb {id:Nat}:TM .ret id= .ret:=rfl
@[go_sem] theorem ahc {j id:Nat}:TM (.exit j) id=if j=id then .bT else .exit j:=rfl
@[go_sem] theorem ahd {rs:List MS} {Q:AV->AH->Nat->Prop}:RS rs Q .ret h n F=TR (rsE rs F h) h n Q:=bC rfl
@[go_sem] theorem ahe {rs:List MS} {Q:AV->AH->Nat->Prop}:RS rs Q .bT h n F=TR (rsE rs F h) h n Q:=bC rfl
@[go_sem] theorem ahf {c:List AV} {Q:AV->AH->Nat->Prop}:TR (some c) h n Q=Q (XK c) h n:=bC rfl
@[go_sem] theorem ahg {a:AV}:XK [a]=a:=rfl
@[go_sem] theorem ahh:XK []= .bQ []:=rfl
@[go_sem] theorem ahi {a b:AV} {c:List AV}:XK (a::b::c)= .bQ (a::b::c):=rfl
theorem Ak{I:Nat->AH->Nat->Fm->Prop}{i:Nat}:V9 P Y g I i s f Q .bT h n F=∃j G,j<i/\I j h n G/\∀m v,lk G m=some v->lk F m=some v:=rfl
@[go_sem ↓] theorem ahj {I:Nat->AH->Nat->Fm->Prop} {i j:Nat}:V9 P Y g I i s f Q (.exit j) h n F=sK P Y g 100000 s (.exit j) f h n F Q:=bC rfl
@[go_sem ↓] theorem ahk {I:Nat->AH->Nat->Fm->Prop} {i:Nat}:V9 P Y g I i s f Q .ret h n F=sK P Y g 100000 s .ret f h n F Q:=bC rfl
end
section
variable {h:AH} {w:Option Nat}
@[go_sem] theorem abh {a b:Option AV}:wF (some (.b true)) a b=a:=rfl
@[go_sem] theorem abj {a b:Option AV}:wF (some (.b false)) a b=b:=rfl
@[go_sem] theorem ahl {x k:Nat}:RO h (some (.p x k)) w=qX (h.get x) k w:=rfl
@[go_sem] theorem ahm {P:Program} {op:BinOp} {ty:TypeId} {a b:AV}:XH P op ty (some a) (some b)=(dY P ty op).run a b:=rfl
@[go_sem] theorem ade {b:Bool}:LP (some (.b b))=some (.b (!b)):=rfl
@[go_sem] theorem ahn {o b k:Nat}:Xx o (some (.p b k))=some (.p b (k+o)):=rfl
@[go_sem] theorem adf {o:Nat} {c:List AV}:LQ w o (some (.agg c))=KJ w c o:=rfl
@[go_sem] theorem aho {c:List UInt8}:Xz (some (.s c))=some (.i .i64 (c.length:Nat)):=rfl
theorem Al{v:AV}{m:Nat}(e:Pn v=some m):Jl (some v)=some (.i .i64 (m:Nat)):=by unfold Jl;dsimp only;rw[e]
@[go_sem] theorem ahp {w:Nat} {v:AV}:Jm w (some v)=(match qI v with|some c=>if c.length=w then some c else none|none=>none):=rfl
@[go_sem] theorem X6 {t:TypeId} {l u:List AV} {o:Nat}:fu (some (.row t l)) o (some u)=(oh u o l).map (.row t):=by
 show(match oh u o l with|some m=>some (AO.row t m)|none=>none)=_;cases oh u o l<;>rfl
end
def nv:List AV->Nat->Option AV
 |[],_=>none
 |a::_,0=>some a
 |_::l,k+1=>nv l k
theorem qZ:∀(l:List AV)(k:Nat),nv l k=l[k]?
 |[],k=>by simp[nv]
 |a::l,0=>rfl
 |a::l,k+1=>by simp[nv,qZ l k]
@[go_sem] theorem akf {a:AV} {l:List AV}:nv (a::l) 0=some a:=rfl
@[go_sem] theorem akg {a:AV} {l:List AV} {k:Nat}:nv (a::l) (k+1)=nv l k:=rfl
@[go_sem] theorem adg {k:Nat} {c:List AV}:LU k (some (.bQ c))=nv c k:=(qZ c k).symm
@[go_sem] theorem akh {k:Nat} {F:Fm} {l:List AV}:ev (.s k) F l=lk F k:=rfl
@[go_sem] theorem aki {k:Nat} {F:Fm} {l:List AV}:ev (.v k) F l=nv l k:=(qZ l k).symm
@[go_sem] theorem akj {a:AV} {F:Fm} {l:List AV}:ev (.c a) F l=some a:=rfl
@[go_sem] theorem abk {F:Fm} {l:List AV}:evs [] F l=some []:=rfl
def BU(a:Option AV)(b:Option (List AV)):Option (List AV):=match a,b with|some a,some b=>some (a::b)|_,_=>none
@[go_sem] theorem adh {a:AV} {b:List AV}:BU (some a) (some b)=some (a::b):=rfl
@[go_sem] theorem X8 {x:MO} {r:List MO} {F:Fm} {l:List AV}:evs (x::r) F l=BU (ev x F l) (evs r F l):=by
 rw[evs];unfold BU;cases ev x F l with
 |none=>rfl
 |some a=>cases evs r F l<;>rfl
@[go_sem] theorem abl {F:Fm} {h:AH}:rsE [] F h=some []:=rfl
@[go_sem] theorem X9 {r:MS} {l:List MS} {F:Fm} {h:AH}:rsE (r::l) F h=BU (Fg r F h) (rsE l F h):=by
 rw[rsE];unfold BU;cases Fg r F h with
 |none=>rfl
 |some a=>cases rsE l F h<;>rfl
@[go_sem] theorem adi {k:Nat} {F:Fm} {h:AH}:Fg (.t k) F h=lk F k:=rfl
@[go_sem] theorem adj {k:Nat} {w:Option Nat} {F:Fm} {h:AH}:Fg (.c k w) F h=RO h (lk F k) w:=rfl
@[go_sem] theorem adk {k:Nat}:lk [] k=none:=rfl
@[go_sem] theorem Pz {j k:Nat} {v:AV} {r:Fm}:lk ((j,v)::r) k=if k=j then some v else lk r k:=rfl
@[go_sem] theorem adl {k:Nat} {v:AV}:pt [] k v=[(k,v)]:=rfl
@[go_sem] theorem abm {j k:Nat} {u v:AV} {r:Fm}:pt ((j,u)::r) k v=if k=j then(k,v)::r else(j,u)::pt r k v:=rfl
@[go_sem] theorem adn {k:Nat} {bs:List Bool} {v:AV} {l:List AV}:wZ k (true::bs) (v::l)=(k,v)::wZ (k+1) bs l:=rfl
@[go_sem] theorem ado {k:Nat} {bs:List Bool} {v:AV} {l:List AV}:wZ k (false::bs) (v::l)=wZ (k+1) bs l:=rfl
@[go_sem] theorem adp {k:Nat}:wZ k [] []=[]:=rfl
theorem aR{F:Fm}:∀m v,lk [] m=some v->lk F m=some v:=λ_ _ e=>by cases e
theorem aN{F:Fm}{k:Nat}{u:AV}{r:Fm}(h:lk F k=some u)(q:∀m v,lk r m=some v->lk F m=some v):∀m v,lk ((k,u)::r) m=some v->lk F m=some v:=λm v e=>by
 rw[Pz]at e;split at e
 .cases e;subst_vars;exact h
 .exact q m v e
@[go_sem] theorem ahq {k:IntKind} {n:Int}:qI (.i k n)=some [.i k n]:=rfl
@[go_sem] theorem ahr {b:Bool}:qI (.b b)=some [.b b]:=rfl
@[go_sem] theorem ahs {b:List UInt8}:qI (.s b)=some [.s b]:=rfl
@[go_sem] theorem aht {b o:Nat}:qI (.p b o)=some [.p b o]:=rfl
@[go_sem] theorem adq {b l o n:Nat} {c:Option Nat}:qI (.sl b l o n c)=some [.sl b l o n c]:=rfl
@[go_sem] theorem ahu {b:Nat}:qI (.m b)=some [.m b]:=rfl
@[go_sem] theorem ahv {g:FuncId} {c:List AV}:qI (.f g c)=some [.f g c]:=rfl
@[go_sem] theorem ahw {b:Nat}:qI (.y b)=some [.y b]:=rfl
@[go_sem] theorem ahx {c:Nat}:qI (.k c)=some [.k c]:=rfl
@[go_sem] theorem adr {a:Addr} {c:Nat}:qI (.es a c)=some [.es a c]:=rfl
@[go_sem] theorem abo {c:List AV}:qI (.agg c)=some c:=rfl
theorem SR.cl{h:AH}{n w:Nat}{v:AV}{len:Nat}{cells:List AV}(s:SR h n w v len cells):qI v=some [v]:=by
 rcases s with⟨rfl,rfl,_⟩|⟨x,lo,o,c,rfl,_⟩|⟨a,c,rfl,_⟩<;>rfl
def tk:Nat->List AV->Option (List AV)
 |0,_=>some []
 |_+1,[]=>none
 |k+1,a::l=>BU (some a) (tk k l)
theorem RU:∀(k:Nat)(l:List AV),tk k l=if k<=l.length then some (l.take k)else none
 |0,l=>by simp[tk]
 |k+1,[]=>by simp[tk]
 |k+1,a::l=>by
  rw[tk,RU k l];by_cases h:k<=l.length
  .rw[if_pos h,if_pos (by simpa using h)];rfl
  .rw[if_neg h,if_neg (by simpa using h)];rfl
def PE:Nat->Nat->List AV->Option (List AV)
 |0,k,l=>tk k l
 |_+1,_,[]=>none
 |o+1,k,_::l=>PE o k l
theorem Mc:∀(o k:Nat)(l:List AV),0<k->PE o k l=if o+k<=l.length then some ((l.drop o).take k)else none
 |0,k,l,_=>by rw[PE,RU];simp
 |o+1,k,[],h=>by rw[PE,if_neg (by simp)]
 |o+1,k,a::l,h=>by
  rw[PE,Mc o k l h];simp only[List.length_cons,List.drop_succ_cons,show o+1+k<=l.length+1↔o+k<=l.length by omega]
@[go_sem] theorem akk {l:List AV}:tk 0 l=some []:=by cases l<;>rfl
@[go_sem] theorem akl {a:AV} {l:List AV} {k:Nat}:tk (k+1) (a::l)=BU (some a) (tk k l):=rfl
@[go_sem] theorem ahy {l:List AV} {k:Nat}:PE 0 k l=tk k l:=by cases l<;>rfl
@[go_sem] theorem ahz {a:AV} {l:List AV} {o k:Nat}:PE (o+1) k (a::l)=PE o k l:=rfl
@[go_sem] theorem X_ {t:TypeId} {l:List AV} {o:Nat}:qX (some (.row t l)) o none=nv l o:=(qZ l o).symm
@[go_sem] theorem ahA {t:TypeId} {l:List AV} {o k:Nat}:qX (some (.row t l)) o (some (k+1))=(PE o (k+1) l).map .agg:=by
 rw[Mc _ _ _ (by omega)];show(if o+(k+1)<=l.length then some (AV.agg ((l.drop o).take (k+1)))else none)=_;split<;>rfl
@[go_sem] theorem ahB {l:List AV} {o:Nat}:KJ none l o=nv l o:=by rw[qZ];exact mW o l
attribute [go_sem] Option.map_some
def st1:Nat->AV->List AV->Option (List AV)
 |_,_,[]=>none
 |0,v,_::l=>some (v::l)
 |o+1,v,a::l=>BU (some a) (st1 o v l)
theorem rV:∀(o:Nat)(v:AV)(l:List AV),st1 o v l=oh [v] o l
 |o,v,[]=>by simp[st1,oh]
 |0,v,a::l=>by simp[st1,oh]
 |o+1,v,a::l=>by
  rw[st1,rV o v l];unfold oh;by_cases h:o+1<=l.length
  .simp[h,BU,show o+1+1<=l.length+1 by omega]
  .simp[h,BU]
@[go_sem] theorem ahC {o:Nat} {v:AV} {l:List AV}:oh [v] o l=st1 o v l:=(rV o v l).symm
@[go_sem] theorem ahD {v a:AV} {l:List AV}:st1 0 v (a::l)=some (v::l):=rfl
@[go_sem] theorem ahE {v a:AV} {l:List AV} {o:Nat}:st1 (o+1) v (a::l)=BU (some a) (st1 o v l):=rfl
theorem Ya{u l:List AV}(h:u.length=l.length):oh u 0 l=some u:=by
 unfold oh;rw[if_pos (by omega)];simp[h]
def PI:List AV->List AV->Option (List AV)
 |[],l=>some l
 |_::_,[]=>none
 |a::u,_::l=>BU (some a) (PI u l)
theorem Md:∀(u l:List AV),PI u l=oh u 0 l
 |[],l=>by simp[PI,oh]
 |a::u,[]=>by simp[PI,oh]
 |a::u,c::l=>by
  rw[PI,Md u l];unfold oh;by_cases h:u.length<=l.length
  .simp[h,BU]
  .simp[h,BU]
@[go_sem] theorem ahF {l:List AV}:PI [] l=some l:=by cases l<;>rfl
@[go_sem] theorem ahG {a c:AV} {u l:List AV}:PI (a::u) (c::l)=BU (some a) (PI u l):=rfl
@[go_sem] theorem ads {a b c:AV} {u l:List AV}:oh (a::b::u) 0 (c::l)=PI (a::b::u) (c::l):=(Md _ _).symm
@[go_sem] theorem adt {a b c:AV} {u l:List AV} {o:Nat}:oh (a::b::u) (o+1) (c::l)=BU (some c) (oh (a::b::u) o l):=by
 unfold oh;by_cases h:o+(a::b::u).length<=l.length
 .rw[if_pos h,if_pos (by simp at h⊢;omega)]
  simp[BU,show o+1+(u.length+1+1)=o+(u.length+1+1)+1 by omega]
 .rw[if_neg h,if_neg (by simp at h⊢;omega)];rfl
attribute [go_sem] List.length_cons List.length_nil
@[go_sem] theorem tQ {t:AH} {n:Nat} {v:AO}:(t.set n v).get n=some v:=aG
@[go_sem] theorem Wd {t:AH} {n m:Nat} {v:AO} (h:m≠n):(t.set n v).get m=t.get m:=ay h
section
variable {P:Program} {ty:TypeId} {a b:Int}
@[go_sem] theorem PK:(dY P ty .lss).run (.i .i64 a) (.i .i64 b)=some (.b (decide (a<b))):=by
 show bc true (some (AV.b (p9 (kY b a)))) none=_;rw[bD,ji,eP];congr 2;by_cases h:a<b<;>simp[h]<;>omega
@[go_sem] theorem abp:(dY P ty .leq).run (.i .i64 a) (.i .i64 b)=some (.b (decide (a<=b))):=by
 show bc true (some (AV.b (kY a b))) none=_;rw[bD,eP]
@[go_sem] theorem abq:(dY P ty .gtr).run (.i .i64 a) (.i .i64 b)=some (.b (decide (b<a))):=by
 show bc true (some (AV.b (p9 (kY a b)))) none=_;rw[bD,ji,eP];congr 2;by_cases h:b<a<;>simp[h]<;>omega
@[go_sem] theorem abr:(dY P ty .geq).run (.i .i64 a) (.i .i64 b)=some (.b (decide (b<=a))):=by
 show bc true (some (AV.b (kY b a))) none=_;rw[bD,eP]
@[go_sem] theorem abt:(dY P ty .eql).run (.i .i64 a) (.i .i64 b)=some (.b (decide (a=b))):=by
 show bc true (some (AV.b (fM a b))) none=_;rw[bD,cK]
@[go_sem] theorem abu:(dY P ty .neq).run (.i .i64 a) (.i .i64 b)=some (.b (!decide (a=b))):=by
 show bc true (some (AV.b (p9 (fM a b)))) none=_;rw[bD,ji,cK]
@[go_sem] theorem PL:(dY P ty .add).run (.i .i64 a) (.i .i64 b)=some (.i .i64 (gK .i64 (a+b))):=rfl
@[go_sem] theorem abv:(dY P ty .sub).run (.i .i64 a) (.i .i64 b)=some (.i .i64 (gK .i64 (a - b))):=rfl
@[go_sem] theorem abw:(dY P ty .mul).run (.i .i64 a) (.i .i64 b)=some (.i .i64 (gK .i64 (a*b))):=rfl
theorem dJ{x:Int}(h1: -9223372036854775808<=x)(h2:x<=9223372036854775807):gK .i64 x=x:=by
 unfold gK;rw[eP,eP,show IntKind.i64.min= -9223372036854775808 from by decide,show IntKind.i64.max=9223372036854775807 from by decide];simp[h1,h2,bc]
end
end
section
mutual
theorem yD:∀(a:AV),IW a a=true
 | .b x=>by cases x<;>rfl
 | .i k n=>by
  show bc (wT k k) (fM n n) false=true;rw[cK,show wT k k=true from decide_eq_true rfl];simp[bc]
 | .s l=>by show qJ l l=true;rw[iV];simp
 | .p x o=>by show bc (Nat.beq x x) (Nat.beq o o) false=true;rw[Nat.beq_refl,Nat.beq_refl];rfl
 | .sl x l o n none=>by show bc (Nat.beq x x) (bc (Nat.beq l l) (bc (Nat.beq o o) (Nat.beq n n) false) false) false=true;rw[Nat.beq_refl,Nat.beq_refl,Nat.beq_refl,Nat.beq_refl];rfl
 | .sl x l o n (some c)=>by show bc (Nat.beq x x) (bc (Nat.beq l l) (bc (Nat.beq o o) (bc (Nat.beq n n) (Nat.beq c c) false) false) false) false=true;rw[Nat.beq_refl,Nat.beq_refl,Nat.beq_refl,Nat.beq_refl,Nat.beq_refl];rfl
 | .m x=>Nat.beq_refl x
 | .f g l=>by show bc (Nat.beq g g) (uW l l) false=true;rw[Nat.beq_refl,qx l];rfl
 | .y x=>Nat.beq_refl x
 | .zH t v=>by show bc (Nat.beq t t) (IW v v) false=true;rw[Nat.beq_refl,yD v];rfl
 | .agg l=>qx l
 | .bQ l=>qx l
 | .es a c=>by show bc (decide (a=a)) (Nat.beq c c) false=true;rw[decide_eq_true rfl,Nat.beq_refl];rfl
 | .k c=>Nat.beq_refl c
theorem qx:∀(l:List AV),uW l l=true
 |[]=>rfl
 |a::l=>by show bc (IW a a) (uW l l) false=true;rw[yD a,qx l];rfl
end
def H8(i:Nat):List Nat->List AV->Option (List AV)
 |[],_=>some []
 |k::ks,vs=>BU (nv vs (i - 1 - k)) (H8 i ks vs)
theorem yF{i:Nat}:∀{ks:List Nat}{vs l:List AV},H8 i ks vs=some l->(K7 i ks).run vs=some l
 |[],vs,l,e=>e
 |k::ks,vs,l,e=>by
  rw[H8]at e;cases h1:nv vs (i - 1 - k)with
  |none=>rw[h1]at e;cases e
  |some a=>
   cases h2:H8 i ks vs with
   |none=>rw[h1,h2]at e;cases e
   |some b=>
    rw[h1,h2]at e;cases e
    show bnd ((CU (i - 1 - k)).run vs) _=_;rw[jr,<-qZ,h1];show bnd ((K7 i ks).run vs) _=_;rw[yF h2];rfl
def gD(w:Nat)(a k:Option AV):Option AV:=match a,k with
 |some (.sl b _ o m _),some (.i _ k)=>if 0<=k/\k<(m:Nat)then some (.p b (o+k.toNat*w))else none
 |_,_=>none
section
variable (P:Program) (Y:YT)
noncomputable def qM (i:MI)(h:AH)(F:Fm)(l:List AV):Option AV:=match i with
 | .jc w x ix=>gD w (ev x F l) (ev ix F l)
 |i=>pv P i h F l
theorem Me{i:MI}{f:FT}{h:AH}{n:Nat}{F:Fm}{l:List AV}{t:Tr AV}{v:AV}(e:qM P i h F l=some v)(hF:Fk t F):i.run P Y f t l h n= .ok v h n:=by
 unfold qM at e;split at e
 .unfold gD at e
  split at e
  .rename_i hx hk
   split at e
   .rename_i hr
    cases e
    obtain⟨k',rfl⟩:=Int.eq_ofNat_of_zero_le hr.1;simp only[MI.run,bf hF hx,bf hF hk];rename_i m _ _ _ _ _;show ok1 (bc (Nat.ble (Nat.succ k') _) _ none) h n=_;rw[Nat.ble_eq_true_of_le (by have:=hr.2;omega),bD];rfl
   .cases e
  .cases e
 .exact RP P Y e hF
def T9(g:Option Bool)(v:Option AV):Option AV:=match g with
 |some true=>v
 |some false=>some (.bQ [])
 |none=>none
noncomputable def Jq (i:Nat)(o:MQ)(h:AH)(F:Fm)(vs:List AV):Option AV:=match H8 i o.ks vs with
 |some l=>T9 (gO o.g F l) (qM P o.i h F l)
 |none=>none
noncomputable def msA (e:TypeId)(z:List AV)(x:Nat)(a c:Option AV):Option (AV×AO):=match a,c with
 |some (.i _ (.ofNat a)),some (.i _ (.ofNat c))=>if a<=c/\c<=1048576 then some (.sl x 0 0 a (some c),.row e (rep c z))else none
 |_,_=>none
noncomputable def PN (i:MI)(x:Nat)(F:Fm)(l:List AV):Option (AV×AO):=match i with
 | .al e z=>some (.p x 0,.row e z)
 | .box e w a=>(Jm w (ev a F l)).map λc=>(.p x 0,.row e c)
 | .KH e len z fs=>(colE fs F l z).map λc=>(.sl x 0 0 len (some len),.row e c)
 | .LA=>some (.m x,.mp [] 0)
 | .Jh e z a c=>msA e z x (ev a F l) (ev c F l)
 |_=>none
structure DE where
 g:FuncId
 S:SK
 all:List MQ
 ck:List (Nat×Nat)
 wr:List (Nat×Tmp)
 s:List It
 Q:PQ
abbrev DK:=List MQ->Nat->Nat->Nat->FT->AH->Nat->List AV->List (Nat×AH)->Fm->Prop
def Fv(p:Nat):List (Nat×AH)->Option AH
 |[]=>none
 |x::l=>if x.1=p then some x.2 else Fv p l
def nq:List MQ->Nat->Option MQ
 |[],_=>none
 |a::_,0=>some a
 |_::l,k+1=>nq l k
noncomputable def PO (N:Nat)(F:Fm)(vs:List AV)(o:Option MQ)(H:Option AH)(v:Option AV):Prop:=match o,H,v with
 |some o,some H,some v=>o.k=1/\Jq P N o H F vs=some v
 |_,_,_=>False
noncomputable def PS (all:List MQ)(F:Fm)(vs:List AV)(hs:List (Nat×AH)):List (Nat×Nat)->Prop
 |[]=>True
 |x::l=>PO P all.length F vs (nq all x.1) (Fv x.2 hs) (nv vs (all.length - 1 - x.1))/\PS all F vs hs l
def wr1(F:Fm)(k:Nat)(v:Option AV):Option Fm:=match v with
 |some v=>some (pt F k v)
 |none=>none
def Jr(i:Nat):List (Nat×Tmp)->List AV->Option Fm->Option Fm
 |[],_,F=>F
 |x::l,vs,F=>match F with
  |some F=>Jr i l vs (wr1 F x.2 (nv vs (i - 1 - x.1)))
  |none=>none
def dW(E:DE)(F:Option Fm)(f:FT)(h:AH)(n:Nat):Prop:=match F with
 |some F=>E.S E.s .bT f h n F E.Q
 |none=>False
def dV(D:DK)(v:Option AV)(l:List MQ)(j r n0:Nat)(f:FT)(h:AH)(n:Nat)(vs:List AV)(hs:List (Nat×AH))(F:Fm):Prop:=match v with
 |some v=>D l (j+1) r n0 f h n (v::vs) hs F
 |none=>False
noncomputable def dA (D:DK)(b:Option Bool)(v:Option (AV×AO))(l:List MQ)(j r n0:Nat)(f:FT)(h:AH)(n:Nat)(vs:List AV)(hs:List (Nat×AH))(F:Fm):Prop:=match b,v with
 |some true,some v=>D l (j+1) (r+1) n0 f (h.set (n0+r) v.2) n (v.1::vs) hs F
 |some false,_=>D l (j+1) (r+1) n0 f h n (.bQ []::vs) hs F
 |_,_=>False
noncomputable def dH (D:DK)(b:Nat)(a:Option AO)(l:List MQ)(j r n0:Nat)(f:FT)(h:AH)(n:Nat)(vs:List AV)(hs:List (Nat×AH))(F:Fm):Prop:=match a with
 |some a=>D l (j+1) r n0 f (h.set b a) n (.bQ []::vs) ((j+1,h.set b a)::hs) F
 |none=>False
noncomputable def dT (D:DK)(a:Option AV)(u:Option (List AV))(l:List MQ)(j r n0:Nat)(f:FT)(h:AH)(n:Nat)(vs:List AV)(hs:List (Nat×AH))(F:Fm):Prop:=match a with
 |some (.p b o)=>dH D b (fu (h.get b) o u) l j r n0 f h n vs hs F
 |_=>False
def dF(D:DK)(g:Option AV)(c:Option (List AV))(l:List MQ)(j r n0:Nat)(f:FT)(h:AH)(n:Nat)(vs:List AV)(hs:List (Nat×AH))(F:Fm):Prop:=match g,c with
 |some (.f g cap),some c=>CW f g (c++cap) h n λv h n=>D l (j+1) r n0 f h n (v::vs) ((j+1,h)::hs) F
 |some (.y q),some c=>RW (Y q c f h n) λv h n=>D l (j+1) r n0 f h n (v::vs) ((j+1,h)::hs) F
 |_,_=>False
def dR(D:DK)(o:Option eY)(l:List MQ)(j r n0:Nat)(f:FT)(vs:List AV)(hs:List (Nat×AH))(F:Fm):Prop:=match o with
 |some (.ok v h n)=>D l (j+1) r n0 f h n (v::vs) ((j+1,h)::hs) F
 |_=>False
noncomputable def dX (D:DK)(i:MI)(u:List AV)(l:List MQ)(j r n0:Nat)(f:FT)(h:AH)(n:Nat)(vs:List AV)(hs:List (Nat×AH))(F:Fm):Prop:=match i with
 | .st w a x=>dT D (ev a F u) (Jm w (ev x F u)) l j r n0 f h n vs hs F
 | .call g cs=>dF Y D (ev g F u) (evs cs F u) l j r n0 f h n vs hs F
 | .app e w x y=>dR D (Po e w h n (ev x F u) (ev y F u)) l j r n0 f vs hs F
 | .RF w x y=>dR D (TN w h n (ev x F u) (ev y F u)) l j r n0 f vs hs F
 | .upd kt m k x=>dR D (TP P kt h n (ev m F u) (ev k F u) (ev x F u)) l j r n0 f vs hs F
 |i=>∀t,Fk t F->RW (i.run P Y f t u h n) λv h n=>D l (j+1) r n0 f h n (v::vs) ((j+1,h)::hs) F
noncomputable def dG (D:DK)(b:Option Bool)(i:MI)(u:List AV)(l:List MQ)(j r n0:Nat)(f:FT)(h:AH)(n:Nat)(vs:List AV)(hs:List (Nat×AH))(F:Fm):Prop:=match b with
 |some true=>dX P Y D i u l j r n0 f h n vs hs F
 |some false=>D l (j+1) r n0 f h n (.bQ []::vs) ((j+1,h)::hs) F
 |none=>False
noncomputable def d3 (D:DK)(u:Option (List AV))(o:MQ)(l:List MQ)(j r n0:Nat)(f:FT)(h:AH)(n:Nat)(vs:List AV)(hs:List (Nat×AH))(F:Fm):Prop:=match u with
 |some u=>dG P Y D (gO o.g F u) o.i u l j r n0 f h n vs hs F
 |none=>False
noncomputable def d2 (D:DK)(u:Option (List AV))(o:MQ)(l:List MQ)(j r n0:Nat)(f:FT)(h:AH)(n:Nat)(vs:List AV)(hs:List (Nat×AH))(F:Fm):Prop:=match u with
 |some u=>dA D (gO o.g F u) (PN o.i (n0+r) F u) l j r n0 f h n vs hs F
 |none=>False
noncomputable def dK (E:DE):Nat->DK
 |0=>λ_ _ _ _ _ _ _ _ _ _=>False
 |k+1=>λl j r n0 f h n vs hs F=>match l with
  |[]=>PS P E.all F vs hs E.ck/\dW E (Jr E.all.length E.wr vs (some F)) f h n
  |o::l=>match o.k with
   |3=>d3 P Y (dK E k) (H8 j o.ks vs) o l j r n0 f h n vs hs F
   |2=>d2 (dK E k) (H8 j o.ks vs) o l j r n0 f h n vs hs F
   |1=>(match o.r with
    |true=>dV (dK E k) (Jq P j o h F vs) l j r n0 f h n vs hs F
    |false=>(match hs with|[]=>False|x::_=>dV (dK E k) (Jq P j o x.2 F vs) l j r n0 f h n vs hs F))
   |0=>dV (dK E k) (Jq P j o .z F vs) l j r n0 f h n vs hs F
   |_=>False
section
variable {P Y} {f:FT} {F:Fm} {t:Tr AV}
theorem BX{i j:Nat}{o:MQ}{h:AH}{n:Nat}{vs:List AV}{v:AV}(hF:Fk t F)(hk:o.k=0\/o.k=1)(e:Jq P i o (if o.k=0 then .z else h) F vs=some v):lC P Y i o f t j h n vs= .ok v h n:=by
 unfold Jq at e;split at e
 case h_2=>cases e
 rename_i l hl;unfold T9 at e;unfold lC;rcases hk with hk|hk<;>rw[hk]<;>(try dsimp only)<;>rw[yF hl]
 .rw[hk,if_pos rfl]at e
  split at e
  .rename_i hg
   show Et (BL o.g t l) _ _=_;rw[qY hF hg];show Oy (o.i.run P Y f t l .z 0) _=_;rw[Me P Y e hF];rfl
  .rename_i hg
   cases e
   show Et (BL o.g t l) _ _=_;rw[qY hF hg];rfl
  .cases e
 .rw[hk,if_neg (by decide)]at e
  split at e
  .rename_i hg
   show Et (BL o.g t l) _ _=_;rw[qY hF hg];show Oy (o.i.run P Y f t l h 0) _=_;rw[Me P Y e hF];rfl
  .rename_i hg
   cases e
   show Et (BL o.g t l) _ _=_;rw[qY hF hg];rfl
  .cases e
theorem T_{i:MI}{x:Nat}{l:List AV}{v:AV×AO}(hF:Fk t F)(e:PN i x F l=some v):i.run P Y f t l .z x= .ok v.1 ((Tr.z:AH).set x v.2) (x+1):=by
 unfold PN at e;split at e
 .cases e;rfl
 .obtain⟨c,h1,rfl⟩:=Option.map_eq_some_iff.1 e
  obtain⟨v,h2,h3,h4⟩:=H6 h1;simp only[MI.run,bf hF h2,aJ,h3,eF,h4,Nat.beq_refl,bD];rfl
 .obtain⟨c,h1,rfl⟩:=Option.map_eq_some_iff.1 e
  simp only[MI.run,xE hF h1,aJ];rfl
 .cases e;rfl
 .unfold msA at e
  split at e
  .rename_i h1 h2
   split at e
   .rename_i h3
    cases e
    simp only[MI.run,bf hF h1,bf hF h2];rw[Nat.ble_eq_true_of_le h3.1,bD,Nat.ble_eq_true_of_le h3.2,bD];rfl
   .cases e
  .cases e
 .cases e
theorem Yb{D:DK}{i:MI}{u:List AV}{l:List MQ}{j r n0:Nat}{h:AH}{n:Nat}{vs:List AV}{hs:List (Nat×AH)}(hF:Fk t F)(e:dX P Y D i u l j r n0 f h n vs hs F):
 ∃v h' n',i.run P Y f t u h n= .ok v h' n'/\D l (j+1) r n0 f h' n' (v::vs) ((j+1,h')::hs) F:=by
 unfold dX at e;split at e
 .unfold dT at e
  split at e
  case h_2=>exact e.elim
  rename_i b o hb;unfold dH at e;split at e
  case h_2=>exact e.elim
  rename_i a ha;refine⟨_,_,_,?_,e⟩;unfold fu at ha;split at ha
  case h_2=>cases ha
  rename_i q1 q2 ty lo u h5 h6;split at ha
  case h_2=>cases ha
  cases ha
  obtain⟨v,h1,h2,h3⟩:=H6 h6;simp only[MI.run,bf hF hb,bf hF h1,aJ];unfold xR;dsimp only;rw[h5];dsimp only;rw[h2];show bc (Nat.beq (mM u) _) (aJ (uT u o lo) _) .bad=_;rw[eF,h3,Nat.beq_refl,bD,yB ‹_›];rfl
 .unfold dF at e
  split at e
  .rename_i h1 h2
   obtain⟨v,h',n',e1,e2⟩:=e;refine⟨v,h',n',?_,e2⟩;simp only[MI.run,bf hF h1,vD hF h2,aJ,iK,e1]
  .rename_i h1 h2
   obtain⟨v,h',n',e1,e2⟩:=e;refine⟨v,h',n',?_,e2⟩;simp only[MI.run,bf hF h1,vD hF h2,aJ,e1]
  .exact e.elim
 .unfold dR Po at e
  split at e
  case h_2=>exact e.elim
  rename_i ho;split at ho
  case h_2=>cases ho
  rename_i h1 h2;refine⟨_,_,_,?_,e⟩;simp only[MI.run,bf hF h1,bf hF h2,aJ];exact Option.some.inj ho
 .unfold dR TN at e
  split at e
  case h_2=>exact e.elim
  rename_i ho;split at ho
  case h_2=>cases ho
  rename_i h1 h2;refine⟨_,_,_,?_,e⟩;simp only[MI.run,bf hF h1,bf hF h2,aJ];exact Option.some.inj ho
 .unfold dR TP at e
  split at e
  case h_2=>exact e.elim
  rename_i ho;split at ho
  case h_2=>cases ho
  rename_i h1 h2 h3;refine⟨_,_,_,?_,e⟩;simp only[MI.run,bf hF h1,bf hF h2,bf hF h3,aJ];exact Option.some.inj ho
 .exact e t hF
theorem H9{p:Nat}:∀{hs:List (Nat×AH)},C9 p hs=Fv p hs
 |[]=>rfl
 |(q,h)::hs=>by rw[BF,Fv,H9]
theorem RV:∀(l:List MQ)(k:Nat),nq l k=l[k]?
 |[],k=>by simp[nq]
 |a::l,0=>rfl
 |a::l,k+1=>by simp[nq,RV l k]
theorem Mf{all:List MQ}{vs:List AV}{hs:List (Nat×AH)}(hF:Fk t F):∀{ck:List (Nat×Nat)},PS P all F vs hs ck->TH P Y all ck f t vs hs=true
 |[],_=>rfl
 |x::l,e=>by
  obtain⟨e0,e⟩:=e;unfold PO at e0;split at e0
  case h_2=>exact e0.elim
  rename_i o H v h1 h2 h3;obtain⟨h4,h5⟩:=e0;rw[RV]at h1;rw[TH,Mf hF e,h1];dsimp only;rw[H9,h2,jr,<-qZ,h3];dsimp only;have:lC P Y all.length o f t 0 H 0 vs= .ok v H 0:=BX hF (.inr h4) (by rw[if_neg (by rw[h4];decide)];exact h5);rw[this];dsimp only;rw[yD];rfl
theorem Mg{i:Nat}{vs:List AV}:∀{wr:List (Nat×Tmp)}{G:Fm},Jr i wr vs none=some G->False
 |[],_,e=>by cases e
 |_::_,_,e=>by cases e
theorem Mh{i:Nat}{vs:List AV}:∀{wr:List (Nat×Tmp)}{F G:Fm}{t:Tr AV},Jr i wr vs (some F)=some G->Fk t F->∃t',Jj i wr vs t=some t'/\Fk t' G
 |[],F,G,t,e,hF=>by cases e;exact⟨t,rfl,hF⟩
 |x::l,F,G,t,e,hF=>by
  rw[Jr]at e;cases hv:nv vs (i - 1 - x.1)with
  |none=>rw[hv]at e;exact(Mg (show Jr i l vs none=some G from e)).elim
  |some v=>
   rw[hv]at e;obtain⟨t',h1,h2⟩:=Mh (show Jr i l vs (some (pt F x.2 v))=some G from e) (hF.put x.2 v);refine⟨t',?_,h2⟩;show bnd ((CU (i - 1 - x.1)).run vs) _=_;rw[jr,<-qZ,hv];exact h1
theorem yG{E:DE}:∀(k:Nat){l:List MQ}{j r n0:Nat}{h:AH}{n:Nat}{vs:List AV}{hs:List (Nat×AH)},Fk t F->dK P Y E k l j r n0 f h n vs hs F->
 ∃h1 n1 vs1 hs1,vC P Y l j r f t n0 h n vs hs= .ok h1 n1 vs1 hs1/\PS P E.all F vs1 hs1 E.ck/\dW E (Jr E.all.length E.wr vs1 (some F)) f h1 n1
 |0,l,j,r,n0,h,n,vs,hs,hF,e=>e.elim
 |k+1,[],j,r,n0,h,n,vs,hs,hF,e=>⟨_,_,_,_,rfl,e.1,e.2⟩
 |k+1,o::l,j,r,n0,h,n,vs,hs,hF,e=>by
  rw[vC.eq_def];dsimp only;rw[dK]at e;dsimp only at e;have val:∀{H:AH}{v:Option AV},(∀v,Jq P j o H F vs=some v->∃H' n',lC P Y j o f t 0 H n vs= .ok v H' n')->dV (dK P Y E k) (Jq P j o H F vs) l j r n0 f h n vs hs F->
   ∃v H' n',lC P Y j o f t 0 H n vs= .ok v H' n'/\∃h1 n1 vs1 hs1,vC P Y l (j+1) r f t n0 h n (v::vs) hs= .ok h1 n1 vs1 hs1/\PS P E.all F vs1 hs1 E.ck/\dW E (Jr E.all.length E.wr vs1 (some F)) f h1 n1:=by
   intro H _ q e;unfold dV at e;split at e
   .obtain⟨H',n',q⟩:=q _ ‹_›
    exact⟨_,_,_,q,yG k hF e⟩
   .exact e.elim
  split at e
  .rename_i hk
   simp only[hk];unfold d3 at e;split at e
   case h_2=>exact e.elim
   rename_i u hu;unfold dG at e;have hd:∀x,lC P Y j o f t x h n vs=Et (BL o.g t u) (o.i.run P Y f t u h n) (.ok (.bQ []) h n):=λx=>by
    unfold lC;rw[hk];try dsimp only
    rw[yF hu];rfl
   split at e
   .rename_i hg
    obtain⟨v,h',n',e1,e2⟩:=Yb hF e;rw[hd,qY hF hg,e1];exact yG k hF e2
   .rename_i hg
    rw[hd,qY hF hg];exact yG k hF e
   .exact e.elim
  .rename_i hk
   simp only[hk];unfold d2 at e;split at e
   case h_2=>exact e.elim
   rename_i u hu;unfold dA at e;split at e
   .rename_i v hg hv
    have:lC P Y j o f t (Nat.add n0 r) h n vs= .ok v.1 (h.set (n0+r) v.2) n:=by
     unfold lC;rw[hk];try dsimp only
     rw[yF hu];show Et (BL o.g t u) _ _=_;rw[qY hF hg];show Oy (o.i.run P Y f t u .z (n0+r)) _=_;rw[T_ hF hv];show bc (Nat.beq (n0+r+1) (Nat.succ (n0+r))) (aJ (((Tr.z:AH).set (n0+r) v.2).get (n0+r)) _) .bad=_;rw[Nat.beq_refl,aG];rfl
    rw[this];exact yG k hF e
   .rename_i hg
    have:lC P Y j o f t (Nat.add n0 r) h n vs= .ok (.bQ []) h n:=by
     unfold lC;rw[hk];try dsimp only
     rw[yF hu];show Et (BL o.g t u) _ _=_;rw[qY hF hg];rfl
    rw[this];exact yG k hF e
   .exact e.elim
  .rename_i hk
   simp only[hk];split at e
   .rename_i hr
    simp only[hr];obtain⟨v,H',n',e1,e2⟩:=val (v:=none) (λv hv=>⟨_,_,BX hF (.inr hk) (by rw[if_neg (by rw[hk];decide)];exact hv)⟩) e;rw[e1];exact e2
   .rename_i hr
    simp only[hr];split at e
    .exact e.elim
    .rename_i x hs'
     obtain⟨v,H',n',e1,e2⟩:=val (v:=none) (λv hv=>⟨_,_,BX hF (.inr hk) (by rw[if_neg (by rw[hk];decide)];exact hv)⟩) e;dsimp only;rw[e1];exact e2
  .rename_i hk
   simp only[hk];have e1:∃v,Jq P j o .z F vs=some v/\dK P Y E k l (j+1) r n0 f h n (v::vs) hs F:=by
    unfold dV at e;split at e
    .exact⟨_,‹_›,e⟩
    .exact e.elim
   obtain⟨v,hv,e2⟩:=e1;have:lC P Y j o f t 0 h n vs= .ok v h n:=BX hF (.inl hk) (by rw[if_pos hk];exact hv);rw[this];exact yG k hF e2
  .exact e.elim
theorem aj{g:FuncId}{K:Nat}{l:List MQ}{ck:List (Nat×Nat)}{wr:List (Nat×Tmp)}{s:List It}{h:AH}{n:Nat}{Q:PQ}(e:dK P Y ⟨g,sK P Y g 100000,l,ck,wr,s,Q⟩ 100000 l 0 0 n f h (n+K) [] [(0,h)] F):
 SM P Y g (.c (.Aj K l ck wr)::s) .bT f h n F Q:=by
 intro t hF;obtain⟨h1,n1,vs,hs,e1,e2,e3⟩:=yG 100000 hF e;unfold dW at e3;split at e3
 case h_2=>exact e3.elim
 rename_i G hG;obtain⟨t',w1,w2⟩:=Mh hG hF;obtain⟨x,h2,n2,t2,F2,g1,g2⟩:=oP _ _ _ _ _ _ _ _ e3 t' w2;refine⟨x,h2,n2,t2,F2,?_,g2⟩;rw[<-g1];show iO (Fa P Y K l ck wr f h n t) _=_;unfold Fa;rw[show vC P Y l 0 0 f t n h (Nat.add n K) [] [(0,h)]= .ok h1 n1 vs hs from e1];dsimp only;rw[Mf hF e2,bD,w1];rfl
end
end
end
section
variable {P:Program} {Y:YT} {E:DE} {D:DK} {k j r n0:Nat} {b:Bool} {ks:List Nat} {g:Option (MO×Bool)} {i:MI} {l:List MQ} {f:FT} {h:AH} {n:Nat} {vs u:List AV} {hs:List (Nat×AH)} {F:Fm}
@[go_sem ↓] theorem adw {q:FuncId} {S:SK} {all:List MQ} {ck:List (Nat×Nat)} {wr:List (Nat×Tmp)} {s:List It} {Q:PQ}:dK P Y ⟨q,S,all,ck,wr,s,Q⟩ (k+1) [] j r n0 f h n vs hs F=(PS P all F vs hs ck/\dW ⟨q,S,all,ck,wr,s,Q⟩ (Jr all.length wr vs (some F)) f h n):=bC rfl
@[go_sem ↓] theorem akm:dK P Y E (k+1) (⟨3,b,ks,g,i⟩::l) j r n0 f h n vs hs F=d3 P Y (dK P Y E k) (H8 j ks vs) ⟨3,b,ks,g,i⟩ l j r n0 f h n vs hs F:=bC rfl
@[go_sem ↓] theorem akn:dK P Y E (k+1) (⟨2,b,ks,g,i⟩::l) j r n0 f h n vs hs F=d2 (dK P Y E k) (H8 j ks vs) ⟨2,b,ks,g,i⟩ l j r n0 f h n vs hs F:=bC rfl
@[go_sem ↓] theorem ako:dK P Y E (k+1) (⟨1,true,ks,g,i⟩::l) j r n0 f h n vs hs F=dV (dK P Y E k) (Jq P j ⟨1,true,ks,g,i⟩ h F vs) l j r n0 f h n vs hs F:=bC rfl
@[go_sem ↓] theorem ahH {x:Nat×AH}:dK P Y E (k+1) (⟨1,false,ks,g,i⟩::l) j r n0 f h n vs (x::hs) F=dV (dK P Y E k) (Jq P j ⟨1,false,ks,g,i⟩ x.2 F vs) l j r n0 f h n vs (x::hs) F:=bC rfl
@[go_sem ↓] theorem akp:dK P Y E (k+1) (⟨0,b,ks,g,i⟩::l) j r n0 f h n vs hs F=dV (dK P Y E k) (Jq P j ⟨0,b,ks,g,i⟩ .z F vs) l j r n0 f h n vs hs F:=bC rfl
@[go_sem] theorem akq {o:MQ}:d3 P Y D (some u) o l j r n0 f h n vs hs F=dG P Y D (gO o.g F u) o.i u l j r n0 f h n vs hs F:=bC rfl
@[go_sem] theorem akr {o:MQ}:d2 D (some u) o l j r n0 f h n vs hs F=dA D (gO o.g F u) (PN o.i (n0+r) F u) l j r n0 f h n vs hs F:=bC rfl
def RX(w:Bool)(a:Option AV):Option Bool:=match a with|some (.b x)=>some (w==x)|some (.bQ _)=>some false|_=>none
@[go_sem] theorem ahI {w:Bool} {c:List AV}:RX w (some (.bQ c))=some false:=rfl
@[go_sem] theorem adx:RX true (some (.b true))=some true:=rfl
@[go_sem] theorem ady:RX true (some (.b false))=some false:=rfl
@[go_sem] theorem adz:RX false (some (.b true))=some false:=rfl
@[go_sem] theorem adA:RX false (some (.b false))=some true:=rfl
@[go_sem] theorem aks:gO none F u=some true:=rfl
@[go_sem] theorem akt {x:MO} {w:Bool}:gO (some (x,w)) F u=RX w (ev x F u):=rfl
@[go_sem] theorem aku:dG P Y D (some true) i u l j r n0 f h n vs hs F=dX P Y D i u l j r n0 f h n vs hs F:=bC rfl
@[go_sem] theorem akv:dG P Y D (some false) i u l j r n0 f h n vs hs F=D l (j+1) r n0 f h n (.bQ []::vs) ((j+1,h)::hs) F:=bC rfl
@[go_sem ↓] theorem ahJ {w:Nat} {a x:MO}:dX P Y D (.st w a x) u l j r n0 f h n vs hs F=dT D (ev a F u) (Jm w (ev x F u)) l j r n0 f h n vs hs F:=bC rfl
@[go_sem ↓] theorem adB {e w:Nat} {x y:MO}:dX P Y D (.app e w x y) u l j r n0 f h n vs hs F=dR D (Po e w h n (ev x F u) (ev y F u)) l j r n0 f vs hs F:=bC rfl
@[go_sem ↓] theorem adC {w:Nat} {x y:MO}:dX P Y D (.RF w x y) u l j r n0 f h n vs hs F=dR D (TN w h n (ev x F u) (ev y F u)) l j r n0 f vs hs F:=bC rfl
@[go_sem ↓] theorem adD {kt:TypeId} {m k x:MO}:dX P Y D (.upd kt m k x) u l j r n0 f h n vs hs F=dR D (TP P kt h n (ev m F u) (ev k F u) (ev x F u)) l j r n0 f vs hs F:=bC rfl
@[go_sem] theorem adE {v:AV}:dR D (some (.ok v h n)) l j r n0 f vs hs F=D l (j+1) r n0 f h n (v::vs) ((j+1,h)::hs) F:=bC rfl
@[go_sem ↓] theorem abx {q:MO} {cs:List MO}:dX P Y D (.call q cs) u l j r n0 f h n vs hs F=dF Y D (ev q F u) (evs cs F u) l j r n0 f h n vs hs F:=bC rfl
@[go_sem] theorem akw {x o:Nat} {c:Option (List AV)}:dT D (some (.p x o)) c l j r n0 f h n vs hs F=dH D x (fu (h.get x) o c) l j r n0 f h n vs hs F:=bC rfl
@[go_sem] theorem akx {x:Nat} {a:AO}:dH D x (some a) l j r n0 f h n vs hs F=D l (j+1) r n0 f (h.set x a) n (.bQ []::vs) ((j+1,h.set x a)::hs) F:=bC rfl
theorem vI{q:FuncId}{cap c:List AV}:dF Y D (some (.f q cap)) (some c) l j r n0 f h n vs hs F=CW f q (c++cap) h n λv h n=>D l (j+1) r n0 f h n (v::vs) ((j+1,h)::hs) F:=rfl
@[go_sem] theorem aky {v:AV}:dV D (some v) l j r n0 f h n vs hs F=D l (j+1) r n0 f h n (v::vs) hs F:=bC rfl
@[go_sem] theorem akz {v:AV} {o:AO}:dA D (some true) (some (v,o)) l j r n0 f h n vs hs F=D l (j+1) (r+1) n0 f (h.set (n0+r) o) n (v::vs) hs F:=bC rfl
@[go_sem] theorem akA {v:Option (AV×AO)}:dA D (some false) v l j r n0 f h n vs hs F=D l (j+1) (r+1) n0 f h n (.bQ []::vs) hs F:=by cases v<;>rfl
@[go_sem] theorem adF {e:TypeId} {z:List AV} {x:Nat}:PN (.al e z) x F u=some (.p x 0,.row e z):=rfl
@[go_sem] theorem aby {e w:Nat} {a:MO} {x:Nat}:PN (.box e w a) x F u=(Jm w (ev a F u)).map λc=>(.p x 0,.row e c):=rfl
@[go_sem] theorem abz {e len:Nat} {z:List AV} {fs:List (Nat×Nat×MO)} {x:Nat}:PN (.KH e len z fs) x F u=(colE fs F u z).map λc=>(.sl x 0 0 len (some len),.row e c):=rfl
@[go_sem] theorem abA {x:Nat}:PN .LA x F u=some (.m x,.mp [] 0):=rfl
noncomputable def dvL (P:Program)(u:Option (List AV))(g:Option (MO×Bool))(i:MI)(h:AH)(F:Fm):Option AV:=match u with
 |some l=>T9 (gO g F l) (qM P i h F l)
 |none=>none
@[go_sem] theorem ahK {N k:Nat}:Jq P N ⟨k,b,ks,g,i⟩ h F vs=dvL P (H8 N ks vs) g i h F:=rfl
@[go_sem] theorem ahL:dvL P (some u) g i h F=T9 (gO g F u) (qM P i h F u):=rfl
@[go_sem] theorem ahM {v:Option AV}:T9 (some true) v=v:=rfl
@[go_sem] theorem ahN {v:Option AV}:T9 (some false) v=some (.bQ []):=rfl
@[go_sem] theorem ahO {N:Nat}:H8 N [] vs=some []:=rfl
@[go_sem] theorem ahP {N k:Nat}:H8 N (k::ks) vs=BU (nv vs (N - 1 - k)) (H8 N ks vs):=rfl
@[go_sem] theorem ahQ {all:List MQ}:PS P all F vs hs []=True:=bC rfl
@[go_sem] theorem ahR {all:List MQ} {a p:Nat} {c:List (Nat×Nat)}:PS P all F vs hs ((a,p)::c)=(PO P all.length F vs (nq all a) (Fv p hs) (nv vs (all.length - 1 - a))/\PS P all F vs hs c):=bC rfl
@[go_sem] theorem adH {N:Nat} {H:AH} {v:AV}:PO P N F vs (some ⟨1,b,ks,g,i⟩) (some H) (some v)=(dvL P (H8 N ks vs) g i H F=some v):=by
 show(1=1/\_)=_;simp only[true_and];rfl
@[go_sem] theorem akB {a:MQ} {l:List MQ}:nq (a::l) 0=some a:=rfl
@[go_sem] theorem akC {a:MQ} {l:List MQ} {k:Nat}:nq (a::l) (k+1)=nq l k:=rfl
@[go_sem] theorem adI {p q:Nat} {H:AH}:Fv p ((q,H)::hs)=if q=p then some H else Fv p hs:=rfl
@[go_sem] theorem ahS {N:Nat} {o:Option Fm}:Jr N [] vs o=o:=by cases o<;>rfl
@[go_sem] theorem ahT {N a:Nat} {d:Tmp} {c:List (Nat×Tmp)}:Jr N ((a,d)::c) vs (some F)=Jr N c vs (wr1 F d (nv vs (N - 1 - a))):=rfl
@[go_sem] theorem ahU {d:Nat} {v:AV}:wr1 F d (some v)=some (pt F d v):=rfl
@[go_sem] theorem akD {q:FuncId} {S:SK} {all:List MQ} {ck:List (Nat×Nat)} {wr:List (Nat×Tmp)} {s:List It} {Q:PQ} {G:Fm}:dW ⟨q,S,all,ck,wr,s,Q⟩ (some G) f h n=S s .bT f h n G Q:=bC rfl
@[go_sem] theorem adJ {x:MO}:qM P (.mv x) h F u=ev x F u:=rfl
@[go_sem] theorem Yc {c a b:MO}:qM P (.pick c a b) h F u=wF (ev c F u) (ev a F u) (ev b F u):=rfl
@[go_sem] theorem abB {z:List AV} {fs:List (Nat×Nat×MO)}:qM P (.Hz z fs) h F u=(colE fs F u z).map .agg:=rfl
@[go_sem] theorem adK {w:Option Nat} {a:MO}:qM P (.ld w a) h F u=RO h (ev a F u) w:=rfl
@[go_sem] theorem abC {op:BinOp} {ty:TypeId} {x y:MO}:qM P (.bin op ty x y) h F u=XH P op ty (ev x F u) (ev y F u):=rfl
@[go_sem] theorem abD {x:MO}:qM P (.not x) h F u=LP (ev x F u):=rfl
@[go_sem] theorem adL {o:Nat} {x:MO}:qM P (.fa o x) h F u=Xx o (ev x F u):=rfl
@[go_sem] theorem abE {w:Option Nat} {o:Nat} {x:MO}:qM P (.RA w o x) h F u=LQ w o (ev x F u):=rfl
@[go_sem] theorem abF {ty:TypeId} {x:MO}:qM P (.Rx ty x) h F u=(ev x F u).map (.zH ty):=rfl
@[go_sem] theorem abG {q:FuncId} {cs:List MO}:qM P (.HV q cs) h F u=(evs cs F u).map (.f q):=rfl
@[go_sem] theorem abH {x:MO} {k:Nat}:qM P (.ext x k) h F u=LU k (ev x F u):=rfl
@[go_sem] theorem Yd {x:MO}:qM P (.Du x) h F u=Xz (ev x F u):=rfl
@[go_sem] theorem Ye {x:MO}:qM P (.iE x) h F u=Jl (ev x F u):=rfl
@[go_sem] theorem abI {x:MO}:qM P (.neg x) h F u=XA (ev x F u):=rfl
@[go_sem] theorem abJ {x:MO} {k:IntKind}:qM P (.Lx k x) h F u=XB k (ev x F u):=rfl
@[go_sem] theorem abK {x:MO}:qM P (.Rw x) h F u=XC (ev x F u):=rfl
@[go_sem] theorem abM {x:MO}:qM P (.Rv x) h F u=Fb (ev x F u):=rfl
@[go_sem] theorem abN {w:Nat} {x:MO} {lo hi:Option MO}:qM P (.Ry w x lo hi) h F u=XD w (ev x F u) (zK lo F u) (zK hi F u):=rfl
@[go_sem] theorem Yf {kt:TypeId} {z:Option AV} {x k:MO} {ok:Bool}:qM P (.look kt z x k ok) h F u=V5 P kt z ok h (ev x F u) (ev k F u):=rfl
@[go_sem] theorem abO {w m:Nat} {x k:MO}:qM P (.Pg w m x k) h F u=LV w m (ev x F u) (ev k F u):=rfl
@[go_sem] theorem abP {x k:MO}:qM P (.zJ x k) h F u=LW (ev x F u) (ev k F u):=rfl
@[go_sem] theorem abQ {w m:Nat} {x:MO} {lo hi:Option MO}:qM P (.Rz w m x lo hi) h F u=Jo w m (ev x F u) (zK lo F u) (zK hi F u):=rfl
@[go_sem] theorem abR {x:MO} {lo hi:Option MO}:qM P (.Oz x lo hi) h F u=XE (ev x F u) (zK lo F u) (zK hi F u):=rfl
@[go_sem] theorem Yg {x:MO}:qM P (.Dv x) h F u=lmO h (ev x F u):=rfl
@[go_sem] theorem abS {x:MO}:qM P (.KI x) h F u=TK h (ev x F u):=rfl
@[go_sem] theorem adM {x y:MO}:qM P (.mx x y) h F u=XF (ev x F u) (ev y F u):=rfl
@[go_sem] theorem adN {x y:MO}:qM P (.mn x y) h F u=XG (ev x F u) (ev y F u):=rfl
@[go_sem] theorem abT {w:Nat} {x k:MO}:qM P (.jc w x k) h F u=gD w (ev x F u) (ev k F u):=rfl
end
section
variable {F:Fm} {l c:List AV}
def Ua(r:List (Nat×Nat×MO))(F:Fm)(l:List AV)(c:Option (List AV)):Option (List AV):=match c with
 |some c=>colE r F l c
 |none=>none
def spS(u:Option (List AV))(o:Nat)(c:List AV):Option (List AV):=match u with
 |some u=>oh u o c
 |none=>none
@[go_sem] theorem adP:colE [] F l c=some c:=rfl
@[go_sem] theorem adQ {o w:Nat} {x:MO} {r:List (Nat×Nat×MO)}:colE ((o,w,x)::r) F l c=Ua r F l (spS (Jm w (ev x F l)) o c):=by
 rw[colE];unfold Ua spS Jm;cases ev x F l with
 |none=>rfl
 |some v=>
  dsimp only;cases qI v with
  |none=>rfl
  |some u=>
   dsimp only;by_cases h:u.length=w
   .rw[if_pos h,if_pos h];dsimp only;cases oh u o c<;>rfl
   .rw[if_neg h,if_neg h]
@[go_sem] theorem adR {r:List (Nat×Nat×MO)}:Ua r F l (some c)=colE r F l c:=rfl
@[go_sem] theorem ahV {u:List AV} {o:Nat}:spS (some u) o c=oh u o c:=rfl
end
@[reducible] def zW (ty i L c B B1:Nat) (body:MC):MC:=.loop (.seq (.reg [⟨none,.bin .lss ty (.s i) (.s L),.k c⟩]) (.seq (.cond (.s c) .skip (.exit B)) (.seq (.blk B1 body) (.reg [⟨none,.bin .add ty (.s i) (.c (.i .i64 1)),.l⟩,⟨none,.mv (.v 0),.k i⟩]))))
section
variable {P:Program} {Y:YT} {g:FuncId} {f:FT}
def RY(P:Program)(Y:YT)(g:FuncId)(I:Nat->AH->Nat->Fm->Prop)(k i L N B1:Nat)(s:List It)(f:FT)(Q:PQ):PQ:=λx h n F=>match x with
 | .bT=>lk F i=some (.i .i64 (k:Nat))/\lk F L=some (.i .i64 (N:Nat))/\∃G,I (k+1) h n G/\∀m v,lk G m=some v->lk F m=some v
 | .exit j=>if j=B1 then lk F i=some (.i .i64 (k:Nat))/\lk F L=some (.i .i64 (N:Nat))/\∃G,I (k+1) h n G/\∀m v,lk G m=some v->lk F m=some v else sK P Y g 100000 s (.exit j) f h n F Q
 |x=>sK P Y g 100000 s x f h n F Q
theorem b_{ty i L c B B1:Nat}{body:MC}{s:List It}{Q:PQ}{h:AH}{n:Nat}{F:Fm}(N:Nat)(I:Nat->AH->Nat->Fm->Prop)(hN:N<=1125899906842623)(hic:i≠c)(hLc:L≠c)(hiL:i≠L)
 (hfr:∀k h n G,I k h n G->lk G c=none/\lk G i=none)
 (h0:lk F i=some (.i .i64 0)/\lk F L=some (.i .i64 (N:Nat))/\∃G,I 0 h n G/\∀m v,lk G m=some v->lk F m=some v)
 (step:∀k h n G,k<N->I k h n G->sK P Y g 100000 [.c body] .bT f h n (pt (pt G L (.i .i64 (N:Nat))) i (.i .i64 (k:Nat))) (RY P Y g I k i L N B1 s f Q))
 (fin:∀h n G,I N h n G->sK P Y g 100000 s (.exit B) f h n G Q):SM P Y g (.c (zW ty i L c B B1 body)::s) .bT f h n F Q:=by
 refine Dx (λm h n F=>∃k,k<=N/\m=N - k/\lk F i=some (.i .i64 (k:Nat))/\lk F L=some (.i .i64 (N:Nat))/\∃G,I k h n G/\∀m v,lk G m=some v->lk F m=some v) N hN ⟨F,⟨0,Nat.zero_le _,rfl,h0⟩,λ_ _ e=>e⟩ ?_;rintro m h n F ⟨k,hk,rfl,e1,e2,G,hI,hG⟩ t hF;obtain⟨f1,f2⟩:=hfr k h n G hI;have t1:=hF i _ e1;have t2:=hF L _ e2;have r1:(MC.reg [⟨none,.bin .lss ty (.s i) (.s L),.k c⟩]).run P Y g f h n t= .ok .bT h n ((pp 20 c).run (.b (decide ((k:Int)<(N:Int)))) t):=by
  show oO P Y _ f h n t []=_;rw[oO];show mQ (aJ ((gp 20 i).run t) λx=>aJ ((gp 20 L).run t) λy=>ok1 ((dY P ty .lss).run x y) h n) _=_;rw[kV,t1];show mQ (aJ ((gp 20 L).run t) λy=>ok1 ((dY P ty .lss).run _ y) h n) _=_;rw[kV,t2];show mQ (ok1 ((dY P ty .lss).run (.i .i64 k) (.i .i64 N)) h n) _=_;rw[PK];rfl
 have gc:∀t0:Tr AV,gL (.s c) ((pp 20 c).run (.b (decide ((k:Int)<(N:Int)))) t0) []=some (.b (decide ((k:Int)<(N:Int)))):=λt0=>by
  show(gp 20 c).run _=_;rw[kV,jg,if_pos rfl]
 have hG1:Fk ((pp 20 c).run (.b (decide ((k:Int)<(N:Int)))) t) G:=λm v e=>by
  rw[jg,if_neg (λe0=>by rw[e0,f1]at e;cases e)];exact hF m v (hG m v e)
 have out:∀r:eZ,(MC.seq (.reg [⟨none,.bin .lss ty (.s i) (.s L),.k c⟩]) (.seq (.cond (.s c) .skip (.exit B)) (.seq (.blk B1 body) (.reg [⟨none,.bin .add ty (.s i) (.c (.i .i64 1)),.l⟩,⟨none,.mv (.v 0),.k i⟩])))).run P Y g f h n t=r->
  iO ((MC.seq (.reg [⟨none,.bin .lss ty (.s i) (.s L),.k c⟩]) (.seq (.cond (.s c) .skip (.exit B)) (.seq (.blk B1 body) (.reg [⟨none,.bin .add ty (.s i) (.c (.i .i64 1)),.l⟩,⟨none,.mv (.v 0),.k i⟩])))).run P Y g f h n t) (λx h n t=>nu P Y g [] x f h n t)=r:=λr e=>by
  rw[e];cases r<;>rfl
 by_cases hlt:k<N
 .have hd:decide ((k:Int)<(N:Int))=true:=decide_eq_true (by omega)
  have hF2:Fk ((pp 20 c).run (.b (decide ((k:Int)<(N:Int)))) t) (pt (pt G L (.i .i64 (N:Nat))) i (.i .i64 (k:Nat))):=λm v e=>by
   rw[jR,jR]at e;split at e
   .cases e;subst_vars;rw[jg,if_neg hic];exact t1
   .split at e
    .cases e;subst_vars;rw[jg,if_neg hLc];exact t2
    .exact hG1 m v e
  obtain⟨x,h1,n1,t3,F3,b1,b2,b3⟩:=oP _ _ _ _ _ _ _ _ (step k h n G hlt hI) _ hF2;obtain⟨x0,h0',n0',t0',b0,b1⟩:=jh (show iO (body.run P Y g f h n _) (λx h n t=>nu P Y g [] x f h n t)= .ok x h1 n1 t3 from b1);cases b1
  have head:∀r:eZ,iO (iO (body.run P Y g f h n ((pp 20 c).run (.b (decide ((k:Int)<(N:Int)))) t)) λx h n t=>match x with
   | .exit j=>bc (Nat.beq j B1) (.ok .bT h n t) (.ok (.exit j) h n t)
   |x=>.ok x h n t) (λx h n t=>CQ x ((MC.reg [⟨none,.bin .add ty (.s i) (.c (.i .i64 1)),.l⟩,⟨none,.mv (.v 0),.k i⟩]).run P Y g f h n t) (.ok x h n t))=r->
   (MC.seq (.reg [⟨none,.bin .lss ty (.s i) (.s L),.k c⟩]) (.seq (.cond (.s c) .skip (.exit B)) (.seq (.blk B1 body) (.reg [⟨none,.bin .add ty (.s i) (.c (.i .i64 1)),.l⟩,⟨none,.mv (.v 0),.k i⟩])))).run P Y g f h n t=r:=λr e=>by
   rw[<-e];show iO ((MC.reg _).run P Y g f h n t) _=_;rw[r1];show iO (match gL (.s c) _ []with|some (.b x)=>bc x (eZ.ok .bT h n _) (.ok (.exit B) h n _)|_=>.bad) _=_;rw[gc,hd];rfl
  rw[b0]at head
  -- the next round
  have next:(lk F3 i=some (.i .i64 (k:Nat))/\lk F3 L=some (.i .i64 (N:Nat))/\∃G,I (k+1) h1 n1 G/\∀m v,lk G m=some v->lk F3 m=some v)->
   (MC.reg [⟨none,.bin .add ty (.s i) (.c (.i .i64 1)),.l⟩,⟨none,.mv (.v 0),.k i⟩]).run P Y g f h1 n1 t3= .ok .bT h1 n1 ((pp 20 i).run (.i .i64 ((k+1:Nat):Int)) t3)/\Fk ((pp 20 i).run (.i .i64 ((k+1:Nat):Int)) t3) (pt F3 i (.i .i64 ((k+1:Nat):Int)))/\
    V9 P Y g (λm h n F=>∃k,k<=N/\m=N - k/\lk F i=some (.i .i64 (k:Nat))/\lk F L=some (.i .i64 (N:Nat))/\∃G,I k h n G/\∀m v,lk G m=some v->lk F m=some v) (N - k) s f Q .bT h1 n1 (pt F3 i (.i .i64 ((k+1:Nat):Int))):=by
   rintro⟨c1,c2,G',c3,c4⟩;refine⟨?_,b2.put _ _,⟨N - (k+1),_,by omega,⟨k+1,by omega,rfl,by rw[jR,if_pos rfl],by rw[jR,if_neg (λe=>hiL e.symm)];exact c2,G',c3,λm v e=>?_⟩,λ_ _ e=>e⟩⟩
   .show oO P Y _ f h1 n1 t3 []=_
    rw[oO];show mQ (aJ ((gp 20 i).run t3) λx=>aJ (some (AV.i .i64 1)) λy=>ok1 ((dY P ty .add).run x y) h1 n1) _=_;rw[kV,b2 i _ c1];show mQ (ok1 ((dY P ty .add).run (.i .i64 k) (.i .i64 1)) h1 n1) _=_;rw[PL,dJ (by omega) (by omega)];rfl
   .rw[jR,if_neg (λe0=>by rw[e0,(hfr _ _ _ _ c3).2]at e;cases e)]
    exact c4 m v e
  cases x with
  |bT=>
   obtain⟨n1',n2,n3⟩:=next b3;refine⟨_,_,_,_,_,out _ (head _ ?_),n2,n3⟩;exact n1'
  |exit j=>
   by_cases hj:j=B1
   .obtain⟨n1',n2,n3⟩:=next (by have b3:(if j=B1 then _ else _):=b3;rw[if_pos hj]at b3;exact b3)
    refine⟨_,_,_,_,_,out _ (head _ ?_),n2,n3⟩;show iO (bc (Nat.beq j B1) (eZ.ok .bT h1 n1 t3) (.ok (.exit j) h1 n1 t3)) _=_;rw[hj,Nat.beq_refl];exact n1'
   .refine⟨.exit j,h1,n1,_,F3,out _ (head _ ?_),b2,?_⟩
    .show iO (bc (Nat.beq j B1) (eZ.ok .bT h1 n1 t3) (.ok (.exit j) h1 n1 t3)) _=_
     have:Nat.beq j B1=false:=by
      cases e:Nat.beq j B1 with
      |false=>rfl
      |true=>exact absurd (beq_eq e) hj
     rw[this];rfl
    .have b3:(if j=B1 then _ else sK P Y g 100000 s (.exit j) f h1 n1 F3 Q):=b3
     rw[if_neg hj]at b3;exact b3
  |goto j=>exact⟨.goto j,h1,n1,_,F3,out _ (head _ rfl),b2,b3⟩
  |ret=>exact⟨.ret,h1,n1,_,F3,out _ (head _ rfl),b2,b3⟩
 .obtain rfl:k=N:=by omega
  have hd:decide ((k:Int)<(k:Int))=false:=by simp
  refine⟨.exit B,h,n,_,G,out _ ?_,hG1,fin h n G hI⟩;show iO ((MC.reg _).run P Y g f h n t) _=_;rw[r1];show iO (match gL (.s c) _ []with|some (.b x)=>bc x (eZ.ok .bT h n _) (.ok (.exit B) h n _)|_=>.bad) _=_;rw[gc,hd];rfl
@[reducible] def nl (i:MI):MR:=⟨none,i,.l⟩
@[reducible] def nk (k:Nat) (i:MI):MR:=⟨none,i,.k k⟩
@[reducible] def ng (k:Nat) (b:Bool) (i:MI):MR:=⟨some (.v k,b),i,.l⟩
@[reducible] def mq (k:Nat) (ks:List Nat) (i:MI):MQ:=⟨k,true,ks,none,i⟩
end
end Go.Proofs.YtjoohkjmoghmoaaGreatDoor

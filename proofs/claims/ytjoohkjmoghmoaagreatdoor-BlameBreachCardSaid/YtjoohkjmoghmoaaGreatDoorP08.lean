/- part -/
import Derived.Test.YtjoohkjmoghmoaaGreatDoorP07
set_option linter.all false
namespace Go.Proofs.YtjoohkjmoghmoaaGreatDoor
section
noncomputable section
abbrev HP:=AH->Nat->Prop
def Kp(X:Nat->Prop)(h:AH)(n:Nat)(A:HP):Prop:=∀h' n',n<=n'->(∀x,x<n->¬X x->h'.get x=h.get x)->A h' n'
section
variable {X Y:Nat->Prop} {h h':AH} {n n':Nat} {A B:HP}
theorem Kp.use(k:Kp X h n A):A h n:=k h n (Nat.le_refl _) λ_ _ _=>rfl
theorem Kp.on(k:Kp X h n A)(hn:n<=n')(e:∀x,x<n->¬X x->h'.get x=h.get x):Kp X h' n' A:=λh2 n2 h3 h4=>k h2 n2 (Nat.le_trans hn h3) λx hx hX=>(h4 x (Nat.lt_of_lt_of_le hx hn) hX).trans (e x hx hX)
theorem Kp.up(k:Kp X h n A)(u:Up h n h' n'):Kp X h' n' A:=k.on u.le λx hx _=>u.old x hx
theorem Kp.set(k:Kp X h n A){b m:Nat}{o:AO}(hb:X b\/n<=b)(hm:n<=m):Kp X (h.set b o) m A:=k.on hm λx hx hX=>ay (by rintro rfl;rcases hb with e|e;exact hX e;omega)
theorem Kp.le(k:Kp X h n A)(e:∀x,x<n->Y x->X x):Kp Y h n A:=λh2 n2 h3 h4=>k h2 n2 h3 λx hx hX=>h4 x hx λhY=>hX (e x hx hY)
theorem Kp.wk(k:Kp X h n A)(e:∀h n,A h n->B h n):Kp X h n B:=λh2 n2 h3 h4=>e _ _ (k h2 n2 h3 h4)
theorem Kp.and(k:Kp X h n A)(l:Kp X h n B):Kp X h n λh n=>A h n/\B h n:=λh2 n2 h3 h4=>⟨k h2 n2 h3 h4,l h2 n2 h3 h4⟩
theorem Kp.Jv(k:∀h' n',Up h n h' n'->A h' n')(e:∀x,X x->n<=x):Kp X h n A:=λh2 n2 h3 h4=>k h2 n2 ⟨h3,λx hx=>h4 x hx λhX=>by have:=e x hX;omega⟩
end
def blk(v:AV)(x:Nat):Prop:=∃lo o len c,v= .sl x lo o len c
theorem d_{x lo o len:Nat}{c:Option Nat}{y:Nat}:blk (.sl x lo o len c) y↔y=x:=⟨λ⟨_,_,_,_,e⟩=>by cases e;rfl,λe=>⟨_,_,_,_,by rw[e]⟩⟩
theorem Mw{a:Addr}{c y:Nat}:¬blk (.es a c) y:=λ⟨_,_,_,_,e⟩=>by cases e
theorem fA{c y:Nat}:¬blk (.k c) y:=λ⟨_,_,_,_,e⟩=>by cases e
theorem SL.kp{X:Nat->Prop}{h:AH}{n w:Nat}{v:AV}{α:Type}{c:α->List AV}{l:List α}(s:SL h n w v c l)(hX:∀x,blk v x->¬X x):Kp X h n λh n=>SL h n w v c l:=λh2 n2 h3 h4=>by
 refine⟨s.1,?_⟩;rcases s.2 with e|⟨x,lo,o,cp,rfl,e2,e3,e4,e6⟩|e
 .exact .inl e
 .exact .inr (.inl ⟨x,lo,o,cp,rfl,by omega,by rw[h4 x e2 (hX x (d_.2 rfl))];exact e3,e4,e6⟩)
 .exact .inr (.inr e)
theorem SL.fE{h:AH}{n w:Nat}{v:AV}{α:Type}{c:α->List AV}{l:List α}(s:SL h n w v c l){x:Nat}(hx:blk v x):x<n:=by
 rcases s.2 with⟨rfl,_⟩|⟨y,lo,o,cp,rfl,e2,_⟩|⟨a,c,rfl,_⟩
 rotate_left 2
 .exact absurd hx Mw
 .exact absurd hx fA
 .rw[d_]at hx;omega
def Gr(h:AH)(n e w:Nat)(v:AV){α:Type}(c:α->List AV)(l:List α):Prop:=(∀a,(c a).length=w)/\((v= .k 1/\l=[])\/
 ∃b cap cells,v= .sl b 0 0 l.length cap/\b<n/\h.get b=some (.row e cells)/\cells.take (l.length*w)=l.flatMap c/\l.length*w<=cells.length/\(cap=none->cells.length=l.length*w)/\∀k,cap=some k->l.length<=k/\cells.length=k*w)
section
variable {h h':AH} {n n' e w:Nat} {v:AV} {α:Type} {c:α->List AV} {l l2:List α}
theorem bJ(hw:∀a,(c a).length=w)(l:List α):(l.flatMap c).length=l.length*w:=by
 induction l with
 |nil=>simp
 |cons a l ih=>rw[List.flatMap_cons,List.length_append,hw,ih,List.length_cons,Nat.succ_mul];omega
theorem Gr.nil(hw:∀a,(c a).length=w):Gr h n e w (.k 1) c []:=⟨hw,.inl ⟨rfl,rfl⟩⟩
theorem Gr.of{b cap:Nat}{cells:List AV}(hw:∀a,(c a).length=w)(hb:b<n)(hg:h.get b=some (.row e cells))(hc:cells.take (l.length*w)=l.flatMap c)(h1:l.length<=cap)(h2:cells.length=cap*w):Gr h n e w (.sl b 0 0 l.length (some cap)) c l:=
 ⟨hw,.inr ⟨b,some cap,cells,rfl,hb,hg,hc,by rw[h2];exact Nat.mul_le_mul_right _ h1,λe=>(by cases e),λk e=>by cases e;exact⟨h1,h2⟩⟩⟩
theorem Gr.all{b len:Nat}(hw:∀a,(c a).length=w)(hb:b<n)(hg:h.get b=some (.row e (l.flatMap c)))(hl:len=l.length):Gr h n e w (.sl b 0 0 len (some len)) c l:=by
 subst hl;exact Gr.of hw hb hg (by rw[<-bJ hw,List.take_length]) (Nat.le_refl _) (bJ hw l)
theorem Gr.sl(g:Gr h n e w v c l):SL h n w v c l:=by
 refine⟨g.1,?_⟩;rcases g.2 with⟨rfl,rfl⟩|⟨b,cap,cells,rfl,h1,h2,h3,h4,h5,h6⟩
 .exact .inl ⟨rfl,rfl,rfl⟩
 .exact .inr (.inl ⟨b,0,0,cap,rfl,h1,by rw[h2];exact .of (m:=l.length*w) (by omega) (by rw[List.drop_zero];exact h3),bJ g.1 l,λk hk=>(h6 k hk).1⟩)
theorem Gr.len(g:Gr h n e w v c l):Jl (some v)=some (.i .i64 (l.length:Nat)):=g.sl.len
theorem Gr.cl(g:Gr h n e w v c l):qI v=some [v]:=g.sl.cl
theorem Gr.on(g:Gr h n e w v c l)(hn:n<=n')(hs:∀x,x<n->blk v x->h'.get x=h.get x):Gr h' n' e w v c l:=by
 refine⟨g.1,?_⟩;rcases g.2 with h1|⟨b,cap,cells,rfl,h1,h2,h3⟩
 .exact .inl h1
 .exact .inr ⟨b,cap,cells,rfl,by omega,by rw[hs b h1 (d_.2 rfl)];exact h2,h3⟩
theorem Gr.up(g:Gr h n e w v c l)(u:Up h n h' n'):Gr h' n' e w v c l:=g.on u.le λx hx _=>u.old x hx
theorem Gr.fE(g:Gr h n e w v c l){x:Nat}(hx:blk v x):x<n:=g.sl.fE hx
theorem Gr.ty(g:Gr h n e w v c l){x:Nat}(hx:blk v x):∃cells,h.get x=some (.row e cells):=by
 rcases g.2 with⟨rfl,_⟩|⟨b,cap,cells,rfl,h1,h2,h3⟩
 .exact absurd hx fA
 .rw[d_]at hx;subst hx;exact⟨_,h2⟩
theorem Ia{x y:AV}:(jq e w).run h n x y=aJ (lM x) λlx=>aJ (lM y) λly=>aJ (iZ h w lx x) λcx=>aJ (iZ h w ly y) λcy=>
 bc (Nat.ble (Nat.add lx ly) 1048576)
 (match x with
 | .sl b _ o _ (some c)=>
  bc (Nat.ble (Nat.add lx ly) c)
   (match h.get b with
    |some (.row t l)=>aJ (uT cy (Nat.add o (Nat.mul lx w)) l) λl=>.ok (.sl b 0 o (Nat.add lx ly) (some c)) (h.set b (.row t l)) n
    |_=>.bad)
   (mk h n (.sl n 0 0 (Nat.add lx ly) none) (.row e (CK cx cy)))
 | .k 1=>bc (Nat.beq ly 0) (.ok (.k 1) h n) (mk h n (.sl n 0 0 ly none) (.row e cy))
 | .sl b 0 0 _ none=>
  (match h.get b with
   |some (.row t l)=>bc (Nat.beq t e) (bc (Nat.beq (mM l) (Nat.mul lx w)) (mk (h.del b) n (.sl n 0 0 (Nat.add lx ly) none) (.row e (CK cx cy)))
    (bc (Nat.beq w 0) .bad (aJ (uT cy (Nat.mul lx w) l) λl=>.ok (.sl b 0 0 (Nat.add lx ly) none) (h.set b (.row t l)) n))) .bad
   |_=>.bad)
 |_=>.bad) .bad:=rfl
theorem Gr.app(g:Gr h n e w v c l){y:AV}(hy1:lM y=some l2.length)(hy2:iZ h w l2.length y=some (l2.flatMap c))(hl:l.length+l2.length<=1048576):
 ∃v' h' n',(jq e w).run h n v y= .ok v' h' n'/\Gr h' n' e w v' c (l++l2)/\n<=n'/\(∀x,x<n->¬blk v x->h'.get x=h.get x)/\∀x,blk v' x->blk v x\/n<=x:=by
 have hw:=g.1;rw[Ia,hy1];rcases g.2 with⟨rfl,rfl⟩|⟨b,cap,cells,rfl,h1,h2,h3,h4,h5,h6⟩
 .show∃v' h' n',aJ (iZ h w l2.length y) _=eY.ok v' h' n'/\_
  rw[hy2];show∃v' h' n',bc (Nat.ble (Nat.add 0 l2.length) 1048576) (bc (Nat.beq l2.length 0) (eY.ok (.k 1) h n) (mk h n (.sl n 0 0 l2.length none) (.row e (l2.flatMap c)))) .bad=eY.ok v' h' n'/\_;rw[show Nat.add 0 l2.length=l2.length from Nat.zero_add _,Nat.ble_eq_true_of_le (by simpa using hl),bD];cases l2 with
  |nil=>exact⟨_,_,_,rfl,Gr.nil hw,Nat.le_refl _,λ_ _ _=>rfl,λx hx=>.inl hx⟩
  |cons a l2=>
   refine⟨_,_,_,rfl,⟨hw,.inr ⟨n,none,_,rfl,Nat.lt_succ_self n,aG,?_,?_,λ_=>bJ hw _,λk hk=>by cases hk⟩⟩,Nat.le_succ _,λx hx _=>ay (by omega),λx hx=>?_⟩
   .rw[List.nil_append,<-bJ hw,List.take_length]
   .rw[List.nil_append,<-bJ hw];exact Nat.le_refl _
   .rw[d_]at hx;exact .inr (by omega)
 .have hsrc:iZ h w l.length (.sl b 0 0 l.length cap)=some (l.flatMap c):=by
   show bnd (iD (h.get b) 0 _) (λr=>mO (Nat.mul l.length w) r)=_;rw[h2];show mO (l.length*w) (qH 0 cells)=_;rw[qw,if_pos (by omega),List.drop_zero,h3]
  show∃v' h' n',aJ (iZ h w l.length (.sl b 0 0 l.length cap)) _=eY.ok v' h' n'/\_;rw[hsrc];show∃v' h' n',aJ (iZ h w l2.length y) _=eY.ok v' h' n'/\_;rw[hy2];have happ:(l++l2).flatMap c=l.flatMap c++l2.flatMap c:=List.flatMap_append;cases cap with
  |none=>
   show∃v' h' n',bc (Nat.ble (Nat.add l.length l2.length) 1048576) (match h.get b with
    |some (.row t r)=>bc (Nat.beq t e) (bc (Nat.beq (mM r) (Nat.mul l.length w)) (mk (h.del b) n (.sl n 0 0 (Nat.add l.length l2.length) none) (.row e (CK (l.flatMap c) (l2.flatMap c)))) (bc (Nat.beq w 0) .bad (aJ (uT (l2.flatMap c) (Nat.mul l.length w) r) λr=>.ok (.sl b 0 0 (Nat.add l.length l2.length) none) (h.set b (.row t r)) n))) .bad
    |_=>.bad) .bad=eY.ok v' h' n'/\_
   rw[show Nat.add l.length l2.length=l.length+l2.length from rfl,Nat.ble_eq_true_of_le hl,bD,h2];show∃v' h' n',bc (Nat.beq e e) (bc (Nat.beq (mM cells) (l.length*w)) _ _) .bad=eY.ok v' h' n'/\_;rw[Nat.beq_refl,bD,eF,h5 rfl,Nat.beq_refl,bD,iK,<-happ];refine⟨_,_,_,rfl,⟨hw,.inr ⟨n,none,_,by rw[List.length_append],Nat.lt_succ_self n,aG,?_,?_,λ_=>bJ hw _,λk hk=>by cases hk⟩⟩,Nat.le_succ _,λx hx hb=>?_,λx hx=>?_⟩
   .rw[<-bJ hw,List.take_length]
   .rw[<-bJ hw];exact Nat.le_refl _
   .rw[ay (by omega),Bd,if_neg (λe=>hb (d_.2 e))]
   .rw[d_]at hx;exact .inr (by omega)
  |some k=>
   obtain⟨h7,h8⟩:=h6 k rfl;show∃v' h' n',bc (Nat.ble (l.length+l2.length) 1048576) (bc (Nat.ble (l.length+l2.length) k)
    (match h.get b with
     |some (.row t r)=>aJ (uT (l2.flatMap c) (Nat.add 0 (Nat.mul l.length w)) r) λr=>.ok (.sl b 0 0 (l.length+l2.length) (some k)) (h.set b (.row t r)) n
     |_=>.bad)
    (mk h n (.sl n 0 0 (l.length+l2.length) none) (.row e (CK (l.flatMap c) (l2.flatMap c))))) .bad=eY.ok v' h' n'/\_
   rw[Nat.ble_eq_true_of_le hl,bD,h2];by_cases hk:l.length+l2.length<=k
   .have hfit:(l.length+l2.length)*w<=k*w:=Nat.mul_le_mul_right _ hk
    rw[Nat.add_mul]at hfit;have hsp:uT (l2.flatMap c) (Nat.add 0 (Nat.mul l.length w)) cells=some (cells.take (l.length*w)++(l2.flatMap c++cells.drop (l.length*w+(l2.flatMap c).length))):=by
     rw[show Nat.add 0 (Nat.mul l.length w)=l.length*w from Nat.zero_add _];refine yB ?_;unfold oh;rw[if_pos (by rw[bJ hw];omega)]
    rw[Nat.ble_eq_true_of_le hk,bD];show∃v' h' n',aJ (uT _ _ cells) _=eY.ok v' h' n'/\_;rw[hsp];refine⟨_,_,_,rfl,⟨hw,.inr ⟨b,some k,_,by rw[List.length_append],h1,aG,?_,?_,λe=>(by cases e),?_⟩⟩,Nat.le_refl _,λx hx hb=>?_,λx hx=>.inl (by rw[d_]at hx⊢;exact hx)⟩
    .rw[happ,h3,List.length_append,Nat.add_mul,<-List.append_assoc,List.take_left' (by rw[List.length_append,bJ hw,bJ hw])]
    .rw[List.length_append,Nat.add_mul,List.length_append,List.length_append,List.length_take,List.length_drop,bJ hw];omega
    .rintro k' hk'
     cases hk'
     rw[List.length_append];refine⟨hk,?_⟩;rw[List.length_append,List.length_append,List.length_take,List.length_drop,bJ hw];omega
    .exact ay λe=>hb (d_.2 e)
   .have hf:Nat.ble (l.length+l2.length) k=false:=by
     cases hq:Nat.ble (l.length+l2.length) k with
     |false=>rfl
     |true=>exact absurd (Nat.le_of_ble_eq_true hq) hk
    rw[hf,fU,iK,<-happ];refine⟨_,_,_,rfl,⟨hw,.inr ⟨n,none,_,by rw[List.length_append],Nat.lt_succ_self n,aG,?_,?_,λ_=>bJ hw _,λk hk=>by cases hk⟩⟩,Nat.le_succ _,λx hx hb=>ay (by omega),λx hx=>?_⟩
    .rw[<-bJ hw,List.take_length]
    .rw[<-bJ hw];exact Nat.le_refl _
    .rw[d_]at hx;exact .inr (by omega)
end
theorem jZ{S:SK}{h:AH}{n e w:Nat}{v y:AV}{α:Type}{c:α->List AV}{l l2:List α}{d:MD}{r:List MR}{l':List AV}{s:List It}{f:FT}{F:Fm}{Q:PQ}
 (g:Gr h n e w v c l)(hy:lM y=some l2.length/\iZ h w l2.length y=some (l2.flatMap c))(hl:l.length+l2.length<=1048576)
 (q:∀v' h' n',Gr h' n' e w v' c (l++l2)->n<=n'->(∀x,x<n->¬blk v x->h'.get x=h.get x)->(∀x,blk v' x->blk v x\/n<=x)->mP S d v' r l' s f h' n' F Q):kR S (Po e w h n (some v) (some y)) d r l' s f F Q:=by
 obtain⟨v',h',n',e1,e2,e3,e4,e5⟩:=g.app hy.1 hy.2 hl;rw[XZ,e1,ac9];exact q v' h' n' e2 e3 e4 e5
theorem SL.ap{h:AH}{n w:Nat}{v:AV}{α:Type}{c:α->List AV}{l:List α}(s:SL h n w v c l):lM v=some l.length/\iZ h w l.length v=some (l.flatMap c):=⟨s.src.2,s.src.1⟩
abbrev bv(b:UInt8):List AV:=[.i .u8 (Int.ofNat b.toNat)]
theorem adY{h:AH}{l:List UInt8}:lM (.s l)=some l.length/\iZ h 1 l.length (.s l)=some (l.flatMap bv):=by
 refine⟨by show some (mM l)=_;rw[eF],?_⟩;show bc (Nat.beq 1 1) (bnd (mO l.length l) λl=>some (xP l)) none=_;have h1:∀l:List UInt8,mO l.length l=some l:=by
  intro l;induction l with
  |nil=>rfl
  |cons a l ih=>show bnd (mO l.length l) (λx=>some (a::x))=_;rw[ih];rfl
 rw[h1];show some (xP l)=_;congr 1;induction l with
 |nil=>rfl
 |cons a l ih=>
  show AV.i .u8 (Int.ofNat a.toNat)::xP l=_;rw[List.flatMap_cons,ih];rfl
theorem ug{α:Type}{c:α->List AV}{w:Nat}(hw:∀a,(c a).length=w)(l:List α)(i:Nat)(a:α)(hi:i<l.length):oh (c a) (i*w) (l.flatMap c)=some ((l.set i a).flatMap c):=by
 have hm:(i+1)*w<=l.length*w:=Nat.mul_le_mul_right w hi;rw[Nat.succ_mul]at hm;unfold oh;rw[if_pos (by rw[hw,bJ hw];omega),hw];congr 1;clear hm;induction l generalizing i with
 |nil=>simp at hi
 |cons b l ih=>
  cases i with
  |zero=>
   rw[List.set_cons_zero,List.flatMap_cons,List.flatMap_cons,Nat.zero_mul,List.take_zero,List.nil_append,Nat.zero_add,List.drop_left' (hw b)]
  |succ i=>
   rw[List.set_cons_succ,List.flatMap_cons,List.flatMap_cons,<-ih i (by simpa using hi)];rw[Nat.succ_mul,show i*w+w=(c b).length+i*w by rw[hw];omega,List.take_length_add_append,List.append_assoc];congr 1;rw[Nat.add_assoc,List.drop_length_add_append,hw b,Nat.add_comm (i*w) w]
theorem qC{α:Type}{c:α->List AV}{w e:Nat}(hw:∀a,(c a).length=w){l:List α}{i:Nat}{a:α}(hi:i<l.length):fu (some (.row e (l.flatMap c))) (i*w) (some (c a))=some (.row e ((l.set i a).flatMap c)):=by
 show(match oh (c a) (i*w) (l.flatMap c)with|some m=>some (AO.row e m)|none=>none)=_;rw[ug hw l i a hi]
theorem R9{k:Int}{m:Nat}{f:Nat->Option AV}(h0:0<=k)(h:k<(m:Nat)):Ez k m f=f k.toNat:=by
 obtain⟨i,rfl⟩:=Int.eq_ofNat_of_zero_le h0;show bc (Nat.ble (Nat.succ i) m) (f i) none=_;rw[Nat.ble_eq_true_of_le (by omega),bD];rfl
@[go_sem] theorem r_ {w m b o:Nat} {k:Int} {j:IntKind} (h0:0<=k) (h:k<(m:Nat)):LV w m (some (.p b o)) (some (.i j k))=some (.p b (o+k.toNat*w)):=by
 show Ez k m (λk=>some (AV.p b (Nat.add o (Nat.mul k w))))=_;rw[R9 h0 h];rfl
@[go_sem] theorem abU {e:TypeId} {z:List AV} {x:Nat} {a c:MO} {F:Fm} {u:List AV}:PN (.Jh e z a c) x F u=msA e z x (ev a F u) (ev c F u):=rfl
@[go_sem] theorem ahY {e:TypeId} {z:List AV} {x a c:Nat} {k j:IntKind} (h1:a<=c) (h2:c<=1048576):msA e z x (some (.i k (a:Nat))) (some (.i j (c:Nat)))=some (.sl x 0 0 a (some c),.row e (rep c z)):=by
 show(if a<=c/\c<=1048576 then some (AV.sl x 0 0 a (some c),AO.row e (rep c z))else none)=_;rw[if_pos ⟨h1,h2⟩]
@[go_sem] theorem DL {e:TypeId} {z:List AV} {h:AH} {n a c:Nat} {k j:IntKind} (h1:a<=c) (h2:c<=1048576):XI e z h n (some (.i k (a:Nat))) (some (.i j (c:Nat)))=some (.ok (.sl n 0 0 a (some c)) (h.set n (.row e (rep c z))) (n+1)):=by
 show some (bc (Nat.ble a c) (bc (Nat.ble c 1048576) (mk h n (.sl n 0 0 a (some c)) (.row e (rep c z))) .bad) .bad)=_;rw[Nat.ble_eq_true_of_le h1,bD,Nat.ble_eq_true_of_le h2,bD];rfl
theorem jk{α:Type}(c:α->List AV)(a:α):∀n,rep n (c a)=(List.replicate n a).flatMap c
 |0=>rfl
 |n+1=>by
  show CK (c a) (rep n (c a))=_;rw[iK,jk c a n,List.replicate_succ,List.flatMap_cons]
structure Mx(P:Program)(kt:TypeId){κ:Type}(ke:κ->AV):Prop where
 eq:∀a b,∃x,(qQ P 30 kt).run (ke a) (ke b)=some x/\(x=true↔a=b)
 ck:∀a,(xQ P 30 kt).run (ke a)=true
 sc:∀a,KX (ke a)=true
open Classical in
def nI{κ:Type}(m:List (κ×AV))(k:κ):Option AV:=match m with
 |[]=>none
 |x::r=>if k=x.1 then some x.2 else nI r k
open Classical in
def DN{κ:Type}(m:List (κ×AV))(k:κ)(v:AV):List (κ×AV):=match m with
 |[]=>[(k,v)]
 |x::r=>if k=x.1 then(k,v)::r else x::DN r k v
theorem nK{κ:Type}(m:List (κ×AV))(k k':κ)(v:AV):nI (DN m k v) k'=(open Classical in if k'=k then some v else nI m k'):=by
 classical
 induction m with
 |nil=>rw[DN,nI];by_cases h:k'=k<;>simp[h,nI]
 |cons x r ih=>
  rw[DN];by_cases h:k=x.1
  .rw[if_pos h,nI,nI]
   by_cases h2:k'=k
   .rw[if_pos h2,if_pos h2]
   .rw[if_neg h2,if_neg h2,if_neg (by rw[<-h];exact h2)]
  .rw[if_neg h,nI,nI,ih]
   by_cases h2:k'=x.1
   .rw[if_pos h2,if_pos h2,if_neg (by rw[h2];exactλe=>h e.symm)]
   .rw[if_neg h2,if_neg h2]
def uh(h:AH)(b:Nat){κ:Type}(ke:κ->AV)(m:List (κ×AV)):Prop:=∃es oK,h.get b=some (.mp es oK)/\es.map (λe=>(e.1,e.2.1))=m.map λx=>(ke x.1,x.2)
section
variable {P:Program} {kt:TypeId} {κ:Type} {ke:κ->AV} {h:AH} {n b:Nat} {m:List (κ×AV)} {k:κ}
theorem y7(T:Mx P kt ke):∀(m:List (κ×AV))(es:List (AV×AV×Nat))(i:Nat),es.map (λe=>(e.1,e.2.1))=m.map (λx=>(ke x.1,x.2))->
 (nI m k=none->nP (qQ P 30 kt) (ke k) es i=some none)/\∀v,nI m k=some v->∃j,nP (qQ P 30 kt) (ke k) es i=some (some (i+j,v))/\∀u,(ED (ke k) u j es).map (λe=>(e.1,e.2.1))=(DN m k u).map λx=>(ke x.1,x.2)
 |[],es,i,e=>by
  have:es=[]:=by simpa using e
  subst this;exact⟨λ_=>rfl,λv hv=>by cases hv⟩
 |x::r,[],i,e=>by cases e
 |x::r,a::es,i,e=>by
  rw[List.map_cons,List.map_cons]at e;obtain⟨e1,e2⟩:=List.cons.inj e;obtain⟨e3,e4⟩:=Prod.mk.inj e1;have e3:a.1=ke x.1:=e3;obtain⟨q,q1,q2⟩:=T.eq k x.1;obtain⟨g1,g2⟩:=y7 T r es (i+1) e2;have step:nP (qQ P 30 kt) (ke k) (a::es) i=bc q (some (some (i,a.2.1))) (nP (qQ P 30 kt) (ke k) es (Nat.succ i)):=by
   show bnd ((qQ P 30 kt).run (ke k) a.1) _=_;rw[e3,q1];rfl
  rw[nI];by_cases hk:k=x.1
  .rw[if_pos hk,step,q2.2 hk,bD]
   refine⟨λh=>(by cases h),λv hv=>⟨0,by cases hv;rw[e4];rfl,λu=>?_⟩⟩;rw[DN,if_pos hk];show((ke k,u,a.2.2)::es).map _=_;rw[List.map_cons,List.map_cons,e2]
  .have hq:q=false:=by
    cases q with
    |false=>rfl
    |true=>exact absurd (q2.1 rfl) hk
   rw[if_neg hk,step,hq,fU];refine⟨g1,λv hv=>?_⟩;obtain⟨j,j1,j2⟩:=g2 v hv;refine⟨j+1,by rw[show Nat.succ i=i+1 from rfl,j1];congr 3;omega,λu=>?_⟩;rw[DN,if_neg hk];show(a::ED (ke k) u j es).map _=_;rw[List.map_cons,List.map_cons,j2 u,e1]
theorem uh.look(g:uh h b ke m)(T:Mx P kt ke){z:Option AV}{ok:Bool}{zv:AV}(hz:z=some zv):V5 P kt z ok h (some (.m b)) (some (ke k))=match nI m k with|some v=>some (bc ok (.bQ [v,.b true]) v)|none=>some (bc ok (.bQ [zv,.b false]) zv):=by
 obtain⟨es,oK,h1,h2⟩:=g;obtain⟨g1,g2⟩:=y7 (k:=k) T m es 0 h2;show bc ((xQ P 30 kt).run (ke k)) (bnd (bnd (IQ (h.get b)) λes=>nP (qQ P 30 kt) (ke k) es 0) λr=>
  @Option.rec (Nat×AV) (λ_=>Option AV) (bnd z λz=>some (bc ok (.bQ [z,.b false]) z)) (λv=>some (bc ok (.bQ [v.2,.b true]) v.2)) r) none=_
 rw[T.ck,bD,h1];show bnd (nP (qQ P 30 kt) (ke k) es 0) _=_;cases ha:nI m k with
 |none=>rw[g1 ha,hz];rfl
 |some v=>
  obtain⟨j,j1,_⟩:=g2 v ha;rw[j1];rfl
theorem uh.put(g:uh h b ke m)(T:Mx P kt ke)(v:AV):∃o,CV (qQ P 30 kt) (xQ P 30 kt) h n (.m b) (ke k) v= .ok (.bQ []) (h.set b o) n/\uh (h.set b o) b ke (DN m k v):=by
 obtain⟨es,oK,h1,h2⟩:=g;obtain⟨g1,g2⟩:=y7 (k:=k) T m es 0 h2;show∃o,(match h.get b with
  |some (.mp es c)=>bc ((xQ P 30 kt).run (ke k)) (aJ (nP (qQ P 30 kt) (ke k) es 0) λr=>@Option.rec (Nat×AV) (λ_=>eY) (.ok (.bQ []) (h.set b (.mp (CK es [(ke k,v,c)]) (Nat.succ c))) n)
   (λi=>bc (KX (ke k)) (.ok (.bQ []) (h.set b (.mp (ED (ke k) v i.1 es) c)) n) .bad) r) .bad
  |_=>.bad)=eY.ok (.bQ []) (h.set b o) n/\_
 rw[h1];dsimp only;rw[T.ck,bD];cases ha:nI m k with
 |none=>
  rw[g1 ha];refine⟨_,rfl,_,_,aG,?_⟩;rw[iK,List.map_append,h2];clear h2 g1 g2;induction m with
  |nil=>rfl
  |cons x r ih=>
   rw[nI]at ha;by_cases hk:k=x.1
   .rw[if_pos hk]at ha;cases ha
   .rw[if_neg hk]at ha
    rw[DN,if_neg hk,List.map_cons (f:=λx:κ×AV=>(ke x.1,x.2)),List.map_cons (f:=λx:κ×AV=>(ke x.1,x.2)),List.cons_append,<-ih ha]
 |some w=>
  obtain⟨j,j1,j2⟩:=g2 w ha;rw[j1];show∃o,bc (KX (ke k)) (eY.ok (.bQ []) (h.set b (.mp (ED (ke k) v (0+j) es) oK)) n) .bad=eY.ok (.bQ []) (h.set b o) n/\_;rw[T.sc,bD,Nat.zero_add];exact⟨_,rfl,_,_,aG,j2 v⟩
theorem uh.on{h':AH}(g:uh h b ke m)(e:h'.get b=h.get b):uh h' b ke m:=by unfold uh;rw[e];exact g
theorem uh.new(ke:κ->AV):uh (h.set b (.mp [] 0)) b ke []:=⟨[],0,aG,rfl⟩
end
end
end
section
noncomputable section
def Yp(s:Sl):List Tmp->Option (List Bool)
 |[]=>some []
 |k::r=>bc (Nat.ble (Nat.succ k) s.N) (bnd (Yp s r) λb=>some (s.S k::b)) none
def PX:List Tmp->List Bool->List AV->Fm->Fm
 |k::ks,true::bs,v::vs,F=>PX ks bs vs (pt F k v)
 |_::ks,false::bs,_::vs,F=>PX ks bs vs F
 |_,_,_,F=>F
theorem y8{s:Sl}:∀{ps:List Tmp}{bs:List Bool}{vs:List AV}{t:Tr AV}{F:Fm},Yp s ps=some bs->vs.length=ps.length->Fk t F->∃t',wB s ps vs t=some t'/\Fk t' (PX ps bs vs F)
 |[],_,[],t,F,e,_,hF=>by cases e;exact⟨t,rfl,hF⟩
 |[],_,_::_,_,_,_,hl,_=>by cases hl
 |_::_,_,[],_,_,_,hl,_=>by cases hl
 |k::ps,bs,v::vs,t,F,e,hl,hF=>by
  obtain⟨e1,e⟩:=bI (show bc (Nat.ble (Nat.succ k) s.N) (bnd (Yp s ps) λb=>some (s.S k::b)) none=some bs from e);obtain⟨b,e2,e⟩:=aB e;cases e
  have hp:(uU s k).run t v=some (bc (s.S k) ((pp 20 k).run v t) t):=by
   unfold uU;rw[e1,bD];cases s.S k<;>rfl
  cases hS:s.S k with
  |true=>
   obtain⟨t',g1,g2⟩:=y8 (t:=(pp 20 k).run v t) e2 (by simpa using hl) (hF.put k v);refine⟨t',?_,g2⟩;show bnd ((uU s k).run t v) _=_;rw[hp,hS];exact g1
  |false=>
   obtain⟨t',g1,g2⟩:=y8 (t:=t) e2 (by simpa using hl) hF;refine⟨t',?_,g2⟩;show bnd ((uU s k).run t v) _=_;rw[hp,hS];exact g1
section
variable {P:Program} {sl:FuncId->Sl}
def yQ(l:Nat)(R:Bool->AH->Nat->Prop):PQ:=λx h n _=>∃st pd g t ps fH body,h.get l=some (.lp st pd g t ps fH body)/\match x with
 | .bT=>R true (h.set l (.lp .ready none g t ps fH body)) n
 | .ret=>R false (h.set l (.lp .done (some .ret) g t ps fH body)) n
 | .exit id=>R false (h.set l (.lp .done (some (.exit id)) g t ps fH body)) n
 | .goto _=>False
def aQ(P:Program)(Y:YT)(g:FuncId)(f:FT)(l:Nat)(mb:MC)(R:Bool->AH->Nat->Prop):PQ:=λx h n F=>match x with
 | .bT=>∃pd g1 t1 ps fH body,h.get l=some (.lp .ready pd g1 t1 ps fH body)/\sK P Y g 100000 [.c mb] .bT f (h.set l (.lp .busy pd g1 t1 ps fH body)) n F (yQ l R)
 |_=>False
theorem uj{d l:Nat}{g:FuncId}{f:FT}{h:AH}{n:Nat}{t:Tr AV}{F:Fm}{ps:List Tmp}{fH body:Code}{pd:Option Code}{bs:List Bool}{ma mb:MC}{args:List AV}{R:Bool->AH->Nat->Prop}
 (hg:h.get l=some (.lp .ready pd g t ps fH body))(hF:Fk t F)(hp:Yp (sl g) ps=some bs)(hl:args.length=ps.length)(ha:yA P (sl g) fH=some ma)(hb:yA P (sl g) body=some mb)
 (e:sK P (yl P sl d) g 100000 [.c ma] .bT f h n (PX ps bs args F) (aQ P (yl P sl d) g f l mb R)):RW (yl P sl (d+1) l args f h n) λv h n=>∃b,v= .b b/\R b h n:=by
 obtain⟨t1,e1,e2⟩:=y8 (t:=t) (F:=F) hp hl hF;have run:yl P sl (d+1) l args f h n=aJ (wB (sl g) ps args t) λt1=>
  oD ((cc P sl g (yl P sl d) fH).run f h n t1) λx h n t2=>match x with
   | .bT=>match h.get l with
    |some (.lp .ready pd g1 u1 ps1 wV nR)=>oD ((cc P sl g (yl P sl d) body).run f (h.set l (.lp .busy pd g1 u1 ps1 wV nR)) n t2) λx h n _=>yE l x h n
    |_=>.bad
   |_=>.bad:=by
  show(match h.get l with
   |some (.lp .ready pd g t ps fH body)=>aJ (wB (sl g) ps args t) λt1=>
    oD ((cc P sl g (yl P sl d) fH).run f h n t1) λx h n t2=>match x with
     | .bT=>match h.get l with
      |some (.lp .ready pd g1 u1 ps1 wV nR)=>oD ((cc P sl g (yl P sl d) body).run f (h.set l (.lp .busy pd g1 u1 ps1 wV nR)) n t2) λx h n _=>yE l x h n
      |_=>.bad
     |_=>.bad
   |_=>.bad)=_
  rw[hg]
 unfold RW;rw[run,e1];show∃v h' n',oD ((cc P sl g (yl P sl d) fH).run f h n t1) _=eY.ok v h' n'/\_;rw[lD g ha];obtain⟨x,h1,n1,t2,F1,b1,b2,b3⟩:=oP _ _ _ _ _ _ _ _ e t1 e2;obtain⟨x0,h0',n0',t0',b0,b1⟩:=jh (show iO (ma.run P (yl P sl d) g f h n t1) (λx h n t=>nu P (yl P sl d) g [] x f h n t)= .ok x h1 n1 t2 from b1);cases b1
 rw[b0];cases x with
 |ret=>exact b3.elim
 |exit j=>exact b3.elim
 |goto j=>exact b3.elim
 |bT=>
  obtain⟨pd1,g1,u1,ps1,wV,nR,c1,c2⟩:=b3;show∃v h' n',(match h1.get l with
   |some (.lp .ready pd g1 u1 ps1 wV nR)=>oD ((cc P sl g (yl P sl d) body).run f (h1.set l (.lp .busy pd g1 u1 ps1 wV nR)) n1 t2) λx h n _=>yE l x h n
   |_=>.bad)=eY.ok v h' n'/\_
  rw[c1];show∃v h' n',oD ((cc P sl g (yl P sl d) body).run f _ n1 t2) _=eY.ok v h' n'/\_;rw[lD g hb];obtain⟨x,h2,n2,t3,F2,d1,d2,d3⟩:=oP _ _ _ _ _ _ _ _ c2 t2 b2;obtain⟨x0,h0',n0',t0',d0,d1⟩:=jh (show iO (mb.run P (yl P sl d) g f _ n1 t2) (λx h n t=>nu P (yl P sl d) g [] x f h n t)= .ok x h2 n2 t3 from d1);cases d1
  rw[d0];show∃v h' n',yE l x h2 n2=eY.ok v h' n'/\_;obtain⟨st,pd2,g2,u2,ps2,acL,Xp,k1,k2⟩:=d3;unfold yE;rw[k1];cases x with
  |bT=>exact⟨_,_,_,rfl,true,rfl,k2⟩
  |ret=>exact⟨_,_,_,rfl,false,rfl,k2⟩
  |exit j=>exact⟨_,_,_,rfl,false,rfl,k2⟩
  |goto j=>exact k2.elim
def eQ(P:Program)(Y:YT)(g:FuncId)(l:Nat)(s:List It)(f:FT)(F:Fm)(Q:PQ)(h:AH)(n:Nat):Prop:=∃st pd g1 t ps fH body,h.get l=some (.lp st pd g1 t ps fH body)/\
 ((st= .ready/\pd=none/\sK P Y g 100000 s .bT f (h.set l (.lp .exhausted none g1 t ps fH body)) n F Q)\/
  (st= .done/\pd=some .ret/\sK P Y g 100000 s .ret f (h.set l (.lp .exhausted (some .ret) g1 t ps fH body)) n F Q)\/
  ∃id,st= .done/\pd=some (.exit id)/\sK P Y g 100000 s (.exit id) f (h.set l (.lp .exhausted (some (.exit id)) g1 t ps fH body)) n F Q)
theorem xH{Y:YT}{g:FuncId}{r:MO}{ps:List Tmp}{fH body:Code}{s:List It}{f:FT}{h:AH}{n:Nat}{F:Fm}{Q:PQ}{q:FuncId}{cap:List AV}(hr:ev r F []=some (.f q cap))
 (e:∀t,Fk t F->CW f q (.y n::cap) (h.set n (.lp .ready none g t ps fH body)) (n+1) λ_ h2 n2=>eQ P Y g n s f F Q h2 n2):SM P Y g (.c (.rng r ps fH body)::s) .bT f h n F Q:=by
 intro t hF;obtain⟨v,h2,n2,e1,st,pd,g1,t1,ps1,wV,nR,e2,e3⟩:=e t hF;have run:∀c,G6 n h2 n2 t=c->nu P Y g (.c (.rng r ps fH body)::s) .bT f h n t=iO c λx h n t=>nu P Y g s x f h n t:=λc hc=>by
  show iO (match gL r t []with
   |some (.f q cap)=>mQ (f q (.y n::cap) (h.set n (.lp .ready none g t ps fH body)) (Nat.succ n)) λ_ h2 n2=>G6 n h2 n2 t
   |_=>.bad) _=_
  rw[bf hF hr];show iO (mQ (f q (.y n::cap) (h.set n (.lp .ready none g t ps fH body)) (n+1)) λ_ h2 n2=>G6 n h2 n2 t) _=_;rw[e1,<-hc];rfl
 have out:∀x h3,G6 n h2 n2 t= .ok x h3 n2 t->sK P Y g 100000 s x f h3 n2 F Q->∃x' h' n' t' F',nu P Y g (.c (.rng r ps fH body)::s) .bT f h n t= .ok x' h' n' t'/\Fk t' F'/\Q x' h' n' F':=λx h3 a b=>by
  obtain⟨x',h',n',t',F',c1,c2,c3⟩:=oP _ _ _ _ _ _ _ _ b t hF;exact⟨x',h',n',t',F',(run _ a).trans c1,c2,c3⟩
 rcases e3 with⟨rfl,rfl,e3⟩|⟨rfl,rfl,e3⟩|⟨id,rfl,rfl,e3⟩
 .exact out _ _ (by unfold G6;rw[e2]) e3
 .exact out _ _ (by unfold G6;rw[e2]) e3
 .exact out _ _ (by unfold G6;rw[e2]) e3
theorem RW.mono{r:eY}{Q R:AV->AH->Nat->Prop}(e:RW r Q)(k:∀v h n,Q v h n->R v h n):RW r R:=let⟨v,h,n,e1,e2⟩:=e;⟨v,h,n,e1,k v h n e2⟩
theorem CW.mono{f:FT}{g:FuncId}{args:List AV}{h:AH}{n:Nat}{Q R:AV->AH->Nat->Prop}(e:CW f g args h n Q)(k:∀v h n,Q v h n->R v h n):CW f g args h n R:=let⟨v,h,n,e1,e2⟩:=e;⟨v,h,n,e1,k v h n e2⟩
end
end
end
section
noncomputable section
section
variable {β:Type}
def fN(n:Nat)(k:Nat->Option β):Option β:=bc (Nat.beq n 0) (k 0)<|bc (Nat.beq n 1) (k 1)<|bc (Nat.beq n 2) (k 2)<|bc (Nat.beq n 3) (k 3)<|bc (Nat.beq n 4) (k 4)<|bc (Nat.beq n 5) (k 5)<|bc (Nat.beq n 6) (k 6)<|bc (Nat.beq n 7) (k 7)<|bc (Nat.beq n 8) (k 8)<|bc (Nat.beq n 9) (k 9)<|bc (Nat.beq n 10) (k 10)<|bc (Nat.beq n 11) (k 11)<|bc (Nat.beq n 12) (k 12)<|bc (Nat.beq n 13) (k 13)<|bc (Nat.beq n 14) (k 14)<|bc (Nat.beq n 15) (k 15)<|bc (Nat.beq n 16) (k 16)<|bc (Nat.beq n 17) (k 17)<|bc (Nat.beq n 18) (k 18)<|bc (Nat.beq n 19) (k 19)<|bc (Nat.beq n 20) (k 20)<|bc (Nat.beq n 21) (k 21)<|bc (Nat.beq n 22) (k 22)<|bc (Nat.beq n 23) (k 23)<|bc (Nat.beq n 24) (k 24)<|bc (Nat.beq n 25) (k 25)<|bc (Nat.beq n 26) (k 26)<|bc (Nat.beq n 27) (k 27)<|bc (Nat.beq n 28) (k 28)<|bc (Nat.beq n 29) (k 29)<|bc (Nat.beq n 30) (k 30)<|bc (Nat.beq n 31) (k 31)<|bc (Nat.beq n 32) (k 32)<|bc (Nat.beq n 33) (k 33)<|bc (Nat.beq n 34) (k 34)<|bc (Nat.beq n 35) (k 35)<|bc (Nat.beq n 36) (k 36)<|bc (Nat.beq n 37) (k 37)<|bc (Nat.beq n 38) (k 38)<|bc (Nat.beq n 39) (k 39)<|bc (Nat.beq n 40) (k 40)<|bc (Nat.beq n 41) (k 41)<|bc (Nat.beq n 42) (k 42)<|bc (Nat.beq n 43) (k 43)<|bc (Nat.beq n 44) (k 44)<|bc (Nat.beq n 45) (k 45)<|bc (Nat.beq n 46) (k 46)<|bc (Nat.beq n 47) (k 47)<|bc (Nat.beq n 48) (k 48)<|bc (Nat.beq n 49) (k 49)<|bc (Nat.beq n 50) (k 50)<|bc (Nat.beq n 51) (k 51)<|bc (Nat.beq n 52) (k 52)<|bc (Nat.beq n 53) (k 53)<|bc (Nat.beq n 54) (k 54)<|bc (Nat.beq n 55) (k 55)<|bc (Nat.beq n 56) (k 56)<|bc (Nat.beq n 57) (k 57)<|bc (Nat.beq n 58) (k 58)<|bc (Nat.beq n 59) (k 59)<|bc (Nat.beq n 60) (k 60)<|bc (Nat.beq n 61) (k 61)<|bc (Nat.beq n 62) (k 62)<|bc (Nat.beq n 63) (k 63)<|bc (Nat.beq n 64) (k 64)<|bc (Nat.beq n 65) (k 65)<|bc (Nat.beq n 66) (k 66)<|bc (Nat.beq n 67) (k 67)<|bc (Nat.beq n 68) (k 68)<|bc (Nat.beq n 69) (k 69)<|bc (Nat.beq n 70) (k 70)<|bc (Nat.beq n 71) (k 71)<|bc (Nat.beq n 72) (k 72)<|bc (Nat.beq n 73) (k 73)<|bc (Nat.beq n 74) (k 74)<|bc (Nat.beq n 75) (k 75)<|bc (Nat.beq n 76) (k 76)<|bc (Nat.beq n 77) (k 77)<|bc (Nat.beq n 78) (k 78)<|bc (Nat.beq n 79) (k 79)<|bc (Nat.beq n 80) (k 80)<|bc (Nat.beq n 81) (k 81)<|bc (Nat.beq n 82) (k 82)<|bc (Nat.beq n 83) (k 83)<|bc (Nat.beq n 84) (k 84)<|bc (Nat.beq n 85) (k 85)<|bc (Nat.beq n 86) (k 86)<|bc (Nat.beq n 87) (k 87)<|bc (Nat.beq n 88) (k 88)<|bc (Nat.beq n 89) (k 89)<|bc (Nat.beq n 90) (k 90)<|bc (Nat.beq n 91) (k 91)<|bc (Nat.beq n 92) (k 92)<|bc (Nat.beq n 93) (k 93)<|bc (Nat.beq n 94) (k 94)<|bc (Nat.beq n 95) (k 95)<|bc (Nat.beq n 96) (k 96)<|bc (Nat.beq n 97) (k 97)<|bc (Nat.beq n 98) (k 98)<|bc (Nat.beq n 99) (k 99) none
def fNs:List Nat->(List Nat->Option β)->Option β
 |[],k=>k []
 |a::l,k=>fN a λa=>fNs l λl=>k (a::l)
def fB(b:Bool)(k:Bool->Option β):Option β:=bc b (k true) (k false)
def fBs:List Bool->(List Bool->Option β)->Option β
 |[],k=>k []
 |a::l,k=>fB a λa=>fBs l λl=>k (a::l)
mutual
def fV:AV->(AV->Option β)->Option β
 | .k a,k=>fN a λa=>k (.k a)
 | .agg l,k=>fZ l λl=>k (.agg l)
 | .i a b,k=>k (.i a b)
 |a,k=>k a
def fZ:List AV->(List AV->Option β)->Option β
 |[],k=>k []
 |a::l,k=>fV a λa=>fZ l λl=>k (a::l)
end
def fVo:Option AV->(Option AV->Option β)->Option β
 |none,k=>k none
 |some a,k=>fV a λa=>k (some a)
def fO:MO->(MO->Option β)->Option β
 | .s a,k=>k (.s a)
 | .v j,k=>fN j λj=>k (.v j)
 | .c a,k=>fV a λa=>k (.c a)
def fOs:List MO->(List MO->Option β)->Option β
 |[],k=>k []
 |a::l,k=>fO a λa=>fOs l λl=>k (a::l)
def Wh:Option MO->(Option MO->Option β)->Option β
 |none,k=>k none
 |some a,k=>fO a λa=>k (some a)
def fW:Option Nat->(Option Nat->Option β)->Option β
 |none,k=>k none
 |some a,k=>fN a λa=>k (some a)
def fP:List (Nat×Nat×MO)->(List (Nat×Nat×MO)->Option β)->Option β
 |[],k=>k []
 |(a,b,x)::l,k=>fN a λa=>fN b λb=>fO x λx=>fP l λl=>k ((a,b,x)::l)
def fI:MI->(MI->Option β)->Option β
 | .mv x,k=>fO x λx=>k (.mv x)
 | .pick c a b,k=>fO c λc=>fO a λa=>fO b λb=>k (.pick c a b)
 | .al e z,k=>fZ z λz=>k (.al e z)
 | .box e w x,k=>fN w λw=>fO x λx=>k (.box e w x)
 | .Hz z fs,k=>fZ z λz=>fP fs λfs=>k (.Hz z fs)
 | .KH e len z fs,k=>fN len λlen=>fZ z λz=>fP fs λfs=>k (.KH e len z fs)
 | .ld w x,k=>fW w λw=>fO x λx=>k (.ld w x)
 | .st w a x,k=>fN w λw=>fO a λa=>fO x λx=>k (.st w a x)
 | .Rv x,k=>fO x λx=>k (.Rv x)
 | .bin op ty x y,k=>fO x λx=>fO y λy=>k (.bin op ty x y)
 | .not x,k=>fO x λx=>k (.not x)
 | .neg x,k=>fO x λx=>k (.neg x)
 | .Lx kk x,k=>fO x λx=>k (.Lx kk x)
 | .Rw x,k=>fO x λx=>k (.Rw x)
 | .KI x,k=>fO x λx=>k (.KI x)
 | .Rx ty x,k=>fO x λx=>k (.Rx ty x)
 | .HV g cs,k=>fOs cs λcs=>k (.HV g cs)
 | .LA,k=>k .LA
 | .Jh e z x y,k=>fZ z λz=>fO x λx=>fO y λy=>k (.Jh e z x y)
 | .Oz x lo hi,k=>fO x λx=>Wh lo λlo=>Wh hi λhi=>k (.Oz x lo hi)
 | .Ry w x lo hi,k=>fN w λw=>fO x λx=>Wh lo λlo=>Wh hi λhi=>k (.Ry w x lo hi)
 | .Rz w m x lo hi,k=>fN w λw=>fO x λx=>Wh lo λlo=>Wh hi λhi=>k (.Rz w m x lo hi)
 | .fa o x,k=>fN o λo=>fO x λx=>k (.fa o x)
 | .RA w o x,k=>fW w λw=>fN o λo=>fO x λx=>k (.RA w o x)
 | .jc w x i,k=>fN w λw=>fO x λx=>fO i λi=>k (.jc w x i)
 | .Pg w m x i,k=>fN w λw=>fO x λx=>fO i λi=>k (.Pg w m x i)
 | .zJ x i,k=>fO x λx=>fO i λi=>k (.zJ x i)
 | .TF lw w m x i,k=>fW lw λlw=>fN w λw=>fO x λx=>fO i λi=>k (.TF lw w m x i)
 | .look kt z x kk ok,k=>fVo z λz=>fO x λx=>fO kk λkk=>k (.look kt z x kk ok)
 | .upd kt m kk x,k=>fO m λm=>fO kk λkk=>fO x λx=>k (.upd kt m kk x)
 | .ext x kk,k=>fO x λx=>k (.ext x kk)
 | .rng x,k=>fO x λx=>k (.rng x)
 | .RB x,k=>fO x λx=>k (.RB x)
 | .ent x,k=>fO x λx=>k (.ent x)
 | .call g cs,k=>fO g λg=>fOs cs λcs=>k (.call g cs)
 | .inv x nm cs,k=>fO x λx=>fOs cs λcs=>k (.inv x nm cs)
 | .Du x,k=>fO x λx=>k (.Du x)
 | .iE x,k=>fO x λx=>k (.iE x)
 | .E9 m x,k=>fO x λx=>k (.E9 m x)
 | .Dv x,k=>fO x λx=>k (.Dv x)
 | .app e w x y,k=>fN w λw=>fO x λx=>fO y λy=>k (.app e w x y)
 | .RF w x y,k=>fN w λw=>fO x λx=>fO y λy=>k (.RF w x y)
 | .mx x y,k=>fO x λx=>fO y λy=>k (.mx x y)
 | .mn x y,k=>fO x λx=>fO y λy=>k (.mn x y)
def fD:MD->(MD->Option β)->Option β
 | .n,k=>k .n
 | .k d,k=>k (.k d)
 | .l,k=>k .l
def fG:Option (MO×Bool)->(Option (MO×Bool)->Option β)->Option β
 |none,k=>k none
 |some (x,b),k=>fO x λx=>fB b λb=>k (some (x,b))
def fR:List MR->(List MR->Option β)->Option β
 |[],k=>k []
 |⟨g,i,d⟩::l,k=>fG g λg=>fI i λi=>fD d λd=>fR l λl=>k (⟨g,i,d⟩::l)
def fQs:List MQ->(List MQ->Option β)->Option β
 |[],k=>k []
 |⟨n,r,ks,g,i⟩::l,k=>fN n λn=>fB r λr=>fNs ks λks=>fG g λg=>fI i λi=>fQs l λl=>k (⟨n,r,ks,g,i⟩::l)
def fPr:List (Nat×Nat)->(List (Nat×Nat)->Option β)->Option β
 |[],k=>k []
 |(a,b)::l,k=>fN a λa=>fN b λb=>fPr l λl=>k ((a,b)::l)
def fPt:List (Nat×Tmp)->(List (Nat×Tmp)->Option β)->Option β
 |[],k=>k []
 |(a,b)::l,k=>fN a λa=>fPt l λl=>k ((a,b)::l)
def fSs:List MS->(List MS->Option β)->Option β
 |[],k=>k []
 | .t a::l,k=>fSs l λl=>k (.t a::l)
 | .c a w::l,k=>fW w λw=>fSs l λl=>k (.c a w::l)
def fC:MC->(MC->Option β)->Option β
 | .skip,k=>k .skip
 | .reg l,k=>fR l λl=>k (.reg l)
 | .Aj n l c w,k=>fN n λn=>fQs l λl=>fPr c λc=>fPt w λw=>k (.Aj n l c w)
 | .seq a b,k=>fC a λa=>fC b λb=>k (.seq a b)
 | .cond c a b,k=>fO c λc=>fC a λa=>fC b λb=>k (.cond c a b)
 | .blk n a,k=>fC a λa=>k (.blk n a)
 | .loop a,k=>fC a λa=>k (.loop a)
 | .exit n,k=>k (.exit n)
 | .ret,k=>k .ret
 | .rng r p a b,k=>fO r λr=>k (.rng r p a b)
end
def hF(g:FuncId):Option (List Bool×List MS):=bnd (yC Tryz.prog sl0 g) λx=>fBs x.1 λk=>fSs x.2.2 λr=>some (k,r)
def cF(g:FuncId):Option MC:=bnd (yC Tryz.prog sl0 g) λx=>fC x.2.1 some
def cB(g:FuncId)(c:Code):Option MC:=bnd (yA Tryz.prog (sl0 g) c) λx=>fC x some
def vF(g:FuncId){m:MC}(h0:cF g=some m:=by conv=>lhs;whnf):MC:=m
def vB(g:FuncId)(c:Code){m:MC}(h0:cB g c=some m:=by conv=>lhs;whnf):MC:=m
theorem vT(g:FuncId)(m:MC){k:List Bool}{r:List MS}(h0:hF g=some (k,r):=by conv=>lhs;whnf)(h:yC Tryz.prog sl0 g=some (k,m,r):=by kernel_rfl):yC Tryz.prog sl0 g=some (k,m,r):=h
theorem vU(g:FuncId)(c:Code)(m:MC)(h:yA Tryz.prog (sl0 g) c=some m:=by kernel_rfl):yA Tryz.prog (sl0 g) c=some m:=h
@[go_sem ↓] theorem ah4 {g:FuncId} {m:MC} {h:cF g=some m}:vF g h=m:=rfl
@[go_sem ↓] theorem ah5 {g:FuncId} {c:Code} {m:MC} {h:cB g c=some m}:vB g c h=m:=rfl
end
end
section
noncomputable section
set_option maxRecDepth 1000000
set_option maxHeartbeats 4000000
def Yq:MC:=vF 172
def ad1:=vT 172 Yq
def Yr:MC:=vF 174
def ad2:=vT 174 Yr
def Yt:MC:=vF 171
def c171:=vT 171 Yt
def Ud:MC:=vF 253
def ad3:=vT 253 Ud
def Yu:MC:=vF 284
def ad4:=vT 284 Yu
def Yv:MC:=vF 285
def ad5:=vT 285 Yv
def Ue:MC:=vF 173
def c173:=vT 173 Ue
def Uf:MC:=vF 167
def c167:=vT 167 Uf
def Ug:MC:=vF 169
def ad6:=vT 169 Ug
def Uh:MC:=vF 170
def ad7:=vT 170 Uh
def m93:MC:=vF 93
def c93:=vT 93 m93
def Yw:MC:=vF 283
def ad9:=vT 283 Yw
def Ui:MC:=vF 252
def ad_:=vT 252 Ui
def Uj:MC:=vF 168
def c168:=vT 168 Uj
def m92:MC:=vF 92
def c92:=vT 92 m92
def Yx:MC:=vF 44
def c44:=vT 44 Yx
end
end
section
noncomputable section
variable {h:AH} {n:Nat} {Q:AV->AH->Nat->Prop} {v:CS} {C:aA}
theorem nL(K:Nat)(hC:aY h n v C)(r:Int)(hQ:∀h' n',Up h n h' n'->Q (.b (C.role r)) h' n'):CW (EF (K+1)) 174 [.agg (v.av C),.i .i64 r] h n Q:=by
 refine aD ad2 rfl ?_;repeat' (first|(simp (disch:=omega) only[go_sem,simprocAttr,Yr,CS.av,hC.ah.len])|(refine aT ?_ ?_<;>(intro hb hd;rw[hb];clear hb))|(with_reducible refine aj ?_))
 all_goals(first|(with_reducible refine bW hQ ?_ aI;first|(simp[aA.role,ieq];done)|(simp[aA.role,ieq];omega)|(simp_all [aA.role,ieq];done)|(simp_all [aA.role,ieq];omega))|((with_reducible refine f_ hQ aI (λhz=>?_) (λhz=>?_))<;>first|(simp_all [aA.role,ieq];done)|(simp_all [aA.role,ieq];omega)))
theorem DR{r:Int}(e:¬0<=r\/¬r<C.acts.length):C.natural r=false:=by
 unfold aA.natural aA.DF;by_cases h0:0<=r
 .rw[if_pos h0,List.getElem?_eq_none (by omega)]
 .rw[if_neg h0]
theorem y9{r:Int}{a:dh}(h0:0<=r)(e:C.acts[r.toNat]?=some a):C.natural r=((a.kind==1)&&(a.role== -1)):=by
 unfold aA.natural aA.DF;rw[if_pos h0,e]
theorem za(K:Nat)(hC:aY h n v C)(r:Int)(hQ:∀h' n',Up h n h' n'->Q (.b (C.natural r)) h' n'):CW (EF (K+1)) 171 [.agg (v.av C),.i .i64 r] h n Q:=by
 refine aD c171 rfl ?_;repeat' (first|(simp (disch:=omega) only[go_sem,simprocAttr,Yt,CS.av,hC.acts.len])|(refine aT ?_ ?_<;>(intro hb hd;rw[hb];clear hb))|(with_reducible refine aj ?_))
 any_goals(with_reducible refine bW hQ ?_ aI;exact DR (by omega))
 refine gZ hC.acts (by omega) (by omega) (by omega) λb o a ha hb rd=>?_;repeat' (first|(simp (disch:=omega) only[go_sem,simprocAttr,rd.el,rd.hd,dh.av])|(refine aT ?_ ?_<;>(intro hb hd;rw[hb];clear hb))|(with_reducible refine aj ?_))
 any_goals(with_reducible refine bW hQ ?_ aI;rw[y9 (by omega) ha];simp_all [ieq])
 refine gZ hC.acts (by omega) (by omega) (by omega) λb o a' ha' hb rd=>?_;obtain rfl:a=a':=by rw[ha]at ha';cases ha';rfl
 repeat' (first|(simp (disch:=omega) only[go_sem,simprocAttr,rd.el,rd.hd,dh.av])|(refine aT ?_ ?_<;>(intro hb hd;rw[hb];clear hb))|(with_reducible refine aj ?_))
 all_goals(with_reducible refine bW hQ ?_ aI;rw[y9 (by omega) ha];simp_all [ieq])
theorem PY(K:Nat)(hC:aY h n v C)(k:aF)(t:AV)(hQ:∀h' n',Up h n h' n'->Q (.b (jy C k.kind k.role k.act k.need k.gF k.final)) h' n'):CW (EF (K+2)) 170 [.agg (v.av C),.agg (k.av t)] h n Q:=by
 refine aD ad7 rfl ?_;repeat' (first|(simp (disch:=omega) only[go_sem,simprocAttr,ub.old,Uh,CS.av,aF.av])|(simp (disch:=omega) only[go_sem,simprocAttr,Uh,CS.av,aF.av])|((first|rw[aU]|rw[bR]);with_reducible refine nL _ (hC.up aI) _ λh2 n2 u2=>?_;(first|replace ub:=Up.trans ub (Up.trans aI u2)|have ub:=u2);have hle:=ub.le;clear u2)|((first|rw[aU]|rw[bR]);with_reducible refine za _ (hC.up aI) _ λh2 n2 u2=>?_;(first|replace ub:=Up.trans ub (Up.trans aI u2)|have ub:=u2);have hle:=ub.le;clear u2)|(refine aT ?_ ?_<;>(intro hb hd;rw[hb];clear hb))|(with_reducible refine aj ?_))
 all_goals(first|(with_reducible refine bW hQ ?_ aI;first|(simp[jy,ieq];done)|(simp[jy,ieq];omega)|(simp_all [jy,ieq];done)|(simp_all [jy,ieq];omega))|((with_reducible refine f_ hQ aI (λhz=>?_) (λhz=>?_))<;>first|(simp_all [jy,ieq];done)|(simp_all [jy,ieq];omega)))
theorem Ib(K:Nat)(hQ:∀h' n',Up h n h' n'->Q (.agg [.i .i64 0,.i .i64 1]) h' n'):CW (EF (K+1)) 172 [] h n Q:=by
 refine aD ad1 rfl ?_;repeat' (first|(simp (disch:=omega) only[go_sem,simprocAttr,Yq])|(refine aT ?_ ?_<;>(intro hb hd;rw[hb];clear hb))|(with_reducible refine aj ?_))
 exact hQ _ _ aI
theorem Uk(K:Nat)(x:Int)(h0: -1000000000000<=x)(h1:x<=1000000000000)(hQ:∀h' n',Up h n h' n'->Q (.i .u64 (x.natAbs:Nat)) h' n'):CW (EF (K+1)) 285 [.i .i64 x] h n Q:=by
 refine aD ad5 rfl ?_;repeat' (first|(simp (disch:=omega) only[go_sem,simprocAttr,Yv])|(refine aT ?_ ?_<;>(intro hb hd;rw[hb];clear hb))|(with_reducible refine aj ?_))
 .rw[show gK .i64 (x+1)=x+1 from dJ (by omega) (by omega),show gK .i64 (0 - (x+1))=0 - (x+1)from dJ (by omega) (by omega),show gK .u64 (0 - (x+1))=0 - (x+1)from t_ (by omega) (by omega),show gK .u64 (0 - (x+1)+1)=(x.natAbs:Nat) by rw[t_ (by omega) (by omega)];omega]
  exact hQ _ _ aI
 .rw[show gK .u64 x=(x.natAbs:Nat) by rw[t_ (by omega) (by omega)];omega]
  exact hQ _ _ aI
def Cb(l:List Nat):Nat:=l.foldl Nat.gcd 0
theorem Jw{l:List Nat}{k x:Nat}(h:l[k]?=some x):Cb (l.take (k+1))=Nat.gcd (Cb (l.take k)) x:=by
 unfold Cb;rw[List.take_add_one,h];simp
theorem FH(K:Nat){x:AV}{ns:List Nat}(hx:SL h n 1 x (λx:Nat=>[AV.i .u64 (x:Nat)]) ns)(hb:∀x∈ns,x<=1000000000000)(hl:ns.length<=100)(hQ:∀h' n',Up h n h' n'->Q (.i .u64 (Cb ns:Nat)) h' n'):CW (EF (K+1)) 284 [x] h n Q:=by
 refine aD ad4 rfl ?_;repeat' (first|(simp (disch:=omega) only[go_sem,simprocAttr,Yu,hx.len])|(refine aT ?_ ?_<;>(intro hb hd;rw[hb];clear hb))|(with_reducible refine aj ?_))
 refine gI ns.length (λ_=>True) h n (λk=>[(3,.i .u64 (Cb (ns.take k):Nat)),(6,x)]) (by omega) (by omega) (by omega) (by omega) (λ_=>⟨rfl,rfl⟩) rfl rfl (by(repeat' (first|exact aR|refine aN rfl ?_))) aI trivial (λk h' n' hk _ u=>?_) (λh' n' _ u=>?_)
 .repeat' (first|(simp (disch:=omega) only[go_sem,simprocAttr])|(refine aT ?_ ?_<;>(intro hb hd;rw[hb];clear hb))|(with_reducible refine aj ?_))
  refine gZ hx (by omega) (by omega) (by omega) λb o a ha hbn rd=>?_;rw[show((k:Nat):Int).toNat=k by omega]at ha;have ua:=u.old b hbn;repeat' (first|(simp (disch:=omega) only[go_sem,simprocAttr,rd.el,rd.hd,ua])|(refine aT ?_ ?_<;>(intro hb hd;rw[hb];clear hb))|(with_reducible refine aj ?_))
  refine jw (λm h'' n'' F=>∃g:Nat,m<=1000000000000/\Nat.gcd g m=Cb (ns.take (k+1))/\Up h n h'' n''/\F=[(3,.i .u64 (g:Nat)),(5,.i .u64 (m:Nat)),(6,x),(7,.i .i64 (ns.length:Nat)),(8,.i .i64 (k:Nat))]) a (by have:=hb a (List.mem_of_getElem? ha);omega) ⟨_,⟨Cb (ns.take k),hb a (List.mem_of_getElem? ha),(Jw ha).symm,u,rfl⟩,by(repeat' (first|exact aR|refine aN rfl ?_))⟩ ?_;rintro m h2 n2 F ⟨g,hm,hg,u2,rfl⟩;repeat' (first|(simp (disch:=omega) only[go_sem,simprocAttr])|(refine aT ?_ ?_<;>(intro hb hd;rw[hb];clear hb))|(with_reducible refine aj ?_))
  .rename_i hd
   have hm0:m≠0:=by intro e;subst e;exact hd rfl
   rw[PW (by omega)];repeat' (first|(simp (disch:=omega) only[go_sem,simprocAttr])|(refine aT ?_ ?_<;>(intro hb hd;rw[hb];clear hb))|(with_reducible refine aj ?_))
   rw[Ak];refine⟨g % m,_,Nat.mod_lt _ (by omega),⟨m,by have:=Nat.mod_lt g (show 0<m by omega);omega,?_,u2,rfl⟩,by(repeat' (first|exact aR|refine aN rfl ?_))⟩;rw[<-hg,Nat.gcd_comm m,<-Nat.gcd_rec,Nat.gcd_comm]
  .rename_i hd
   have hm0:m=0:=by omega
   subst hm0;rw[Nat.gcd_zero_right]at hg;refine iB rfl rfl trivial u2 ?_;rw[<-hg]
   (repeat' (first|exact aR|refine aN rfl ?_))
 .repeat' (first|(simp (disch:=omega) only[go_sem,simprocAttr])|(refine aT ?_ ?_<;>(intro hb hd;rw[hb];clear hb))|(with_reducible refine aj ?_))
  rw[List.take_length];exact hQ _ _ u
end
end
section
noncomputable section
variable {h:AH} {n:Nat} {Q:AV->AH->Nat->Prop} {v:CS} {C:aA}
theorem Ul(a b:Nat):Cb [a,b]=Nat.gcd a b:=by simp[Cb]
theorem ze(K:Nat)(r:bA)(hQ:∀h' n',Up h n h' n'->Q (.b r.ok) h' n'):CW (EF (K+2)) 253 [.agg r.av] h n Q:=by
 refine aD ad3 rfl ?_;repeat' (first|(simp (disch:=omega) only[go_sem,simprocAttr,ub.old,Ud,bA.av])|(simp (disch:=omega) only[go_sem,simprocAttr,Ud,bA.av])|((first|rw[aU]|rw[bR]);with_reducible refine Uk _ _ (by omega) (by omega) λh2 n2 u2=>?_;(first|replace ub:=Up.trans ub (Up.trans aI u2)|have ub:=u2);have hle:=ub.le;clear u2)|(refine aT ?_ ?_<;>(intro hb hd;rw[hb];clear hb))|(with_reducible refine aj ?_))
 any_goals(first|(with_reducible refine bW hQ ?_ aI;first|(simp[bA.ok,ieq];done)|(simp[bA.ok,ieq];omega)|(simp_all [bA.ok,ieq];done)|(simp_all [bA.ok,ieq];omega))|((with_reducible refine f_ hQ aI (λhz=>?_) (λhz=>?_))<;>first|(simp_all [bA.ok,ieq];done)|(simp_all [bA.ok,ieq];omega)))
 rw[bR];refine FH (ns:=[r.num.natAbs,r.den.natAbs]) _ (SL.of (λ_=>rfl) (by omega) tQ rfl rfl (by rintro k ⟨⟩;exact Nat.le_refl _)) (by simp;omega) (by simp) λh3 n3 u3=>?_;rw[Ul];repeat' (first|(simp (disch:=omega) only[go_sem,simprocAttr,ub.old])|(simp (disch:=omega) only[go_sem,simprocAttr])|(refine aT ?_ ?_<;>(intro hb hd;rw[hb];clear hb))|(with_reducible refine aj ?_))
 refine bW hQ ?_ aI;have key:decide (r.num.natAbs.gcd r.den.natAbs=1)=decide (((r.num.natAbs.gcd r.den.natAbs:Nat):Int)=1):=decide_eq_decide.2 (by omega);rw[<-key];simp[bA.ok];omega
theorem PZ(K:Nat)(hC:aY h n v C)(h1:1<=C.aC)(h2:C.aC<=100)(hl:C.ah.length<=1000)(hQ:∀h' n',Up h n h' n'->Q (.b C.held) h' n'):CW (EF (K+1)) 167 [.agg (v.av C)] h n Q:=by
 refine aD c167 rfl ?_;repeat' (first|(simp (disch:=omega) only[go_sem,simprocAttr,ub.old,Uf,CS.av,hC.ah.len])|(simp (disch:=omega) only[go_sem,simprocAttr,Uf,CS.av,hC.ah.len])|(refine aT ?_ ?_<;>(intro hb hd;rw[hb];clear hb))|(with_reducible refine aj ?_))
 obtain⟨N,hN⟩:=Int.eq_ofNat_of_zero_le (show 0<=C.aC by omega);generalize hh:Tr.set h n _=hb;have ub:Up h n hb (n+1):=by rw[<-hh];exact aI
 have g1:hb.get n=some (.row 27 (v.av C)):=by rw[<-hh];exact tQ
 clear hh;refine gI C.ah.length (λk=>∀i p,i<k->C.ah[i]?=some p->C.party p=true) hb (n+1) (λk=>[(1,.p n 0),(2,.b false)]) (by omega) (by omega) (by omega) (by omega) (λ_=>⟨rfl,rfl⟩) rfl rfl (by(repeat' (first|exact aR|refine aN rfl ?_))) aI (by omega) (λk h' n' hk hr u=>?_) (λh' n' hr u=>?_)
 .have g2:=(u.old n (by omega)).trans g1
  repeat' (first|(simp (disch:=omega) only[go_sem,simprocAttr,ub.old,g2,CS.av])|(simp (disch:=omega) only[go_sem,simprocAttr,g2,CS.av])|(refine aT ?_ ?_<;>(intro hb hd;rw[hb];clear hb))|(with_reducible refine aj ?_))
  rw[hN];refine gI N (λj=>∀i:Nat,i<j->C.ah[k]?≠some (i:Int)) h' n' (λ_=>[(1,.p n 0),(2,.b false),(3,.i .i64 (k:Nat)),(7,.i .i64 (C.ah.length:Nat)),(8,.i .i64 (k:Nat))]) (by omega) (by omega) (by omega) (by omega) (λ_=>⟨rfl,rfl⟩) rfl rfl (by(repeat' (first|exact aR|refine aN rfl ?_))) aI (by omega) (λj h2 n2 hj hr2 u2=>?_) (λh2 n2 hr2 u2=>?_)
  .have g3:=(u2.old n (by have:=u.le;omega)).trans g2
   repeat' (first|(simp (disch:=omega) only[go_sem,simprocAttr,ub.old,g3,CS.av])|(simp (disch:=omega) only[go_sem,simprocAttr,g3,CS.av])|(refine aT ?_ ?_<;>(intro hb hd;rw[hb];clear hb))|(with_reducible refine aj ?_))
   refine gZ hC.ah (by omega) (by omega) (by omega) λb o a ha hbn rd=>?_;rw[show((k:Nat):Int).toNat=k by omega]at ha;have ua:=(u2.old b (by have:=u.le;omega)).trans ((u.old b (by omega)).trans (ub.old b hbn));repeat' (first|(simp (disch:=omega) only[go_sem,simprocAttr,ub.old,rd.el,rd.hd,ua])|(simp (disch:=omega) only[go_sem,simprocAttr,rd.el,rd.hd,ua])|(refine aT ?_ ?_<;>(intro hb hd;rw[hb];clear hb))|(with_reducible refine aj ?_))
   .rename_i hd
    refine iB rfl rfl (λi p hi hp=>?_) (u.trans u2) (by(repeat' (first|exact aR|refine aN rfl ?_)));by_cases e:i=k
    .subst e
     rw[ha]at hp;cases hp;simp[aA.party];omega
    .exact hr i p (by omega) hp
   .rename_i hd
    refine iB rfl rfl (λi hi e=>?_) u2 (by(repeat' (first|exact aR|refine aN rfl ?_)));by_cases e2:i=j
    .subst e2;rw[ha]at e;cases e;exact hd rfl
    .exact hr2 i (by omega) e
  .repeat' (first|(simp (disch:=omega) only[go_sem,simprocAttr,ub.old])|(simp (disch:=omega) only[go_sem,simprocAttr])|(refine aT ?_ ?_<;>(intro hb hd;rw[hb];clear hb))|(with_reducible refine aj ?_))
   refine bW hQ ?_ aI;obtain⟨a,ha⟩:∃a,C.ah[k]?=some a:=⟨C.ah[k],List.getElem?_eq_some_iff.2 ⟨hk,rfl⟩⟩;unfold aA.held;rw[List.all_eq_false];refine⟨a,List.mem_of_getElem? ha,?_⟩;simp only[aA.party,Bool.and_eq_true,decide_eq_true_eq];rintro⟨q1,q2⟩;obtain⟨i,rfl⟩:=Int.eq_ofNat_of_zero_le q1;exact hr2 i (by omega) ha
 .repeat' (first|(simp (disch:=omega) only[go_sem,simprocAttr,ub.old])|(simp (disch:=omega) only[go_sem,simprocAttr])|(refine aT ?_ ?_<;>(intro hb hd;rw[hb];clear hb))|(with_reducible refine aj ?_))
  refine bW hQ ?_ aI;unfold aA.held;rw[List.all_eq_true];intro p hp;obtain⟨i,hi⟩:=List.getElem?_of_mem hp;exact hr i p (List.getElem?_eq_some_iff.1 hi).1 hi
theorem pJ(K:Nat)(r:bA)(hQ:∀h' n',Up h n h' n'->Q (.b r.plus) h' n'):CW (EF (K+3)) 173 [.agg r.av] h n Q:=by
 refine aD c173 rfl ?_;repeat' (first|(simp (disch:=omega) only[go_sem,simprocAttr,ub.old,Ue,bA.av])|(simp (disch:=omega) only[go_sem,simprocAttr,Ue,bA.av])|((first|rw[aU]|rw[bR]);with_reducible refine ze _ r λh2 n2 u2=>?_;(first|replace ub:=Up.trans ub (Up.trans aI u2)|have ub:=u2);have hle:=ub.le;clear u2)|(refine aT ?_ ?_<;>(intro hb hd;rw[hb];clear hb))|(with_reducible refine aj ?_))
 all_goals(first|(with_reducible refine bW hQ ?_ aI;first|(simp[bA.plus,ieq];done)|(simp[bA.plus,ieq];omega)|(simp_all [bA.plus,ieq];done)|(simp_all [bA.plus,ieq];omega))|((with_reducible refine f_ hQ aI (λhz=>?_) (λhz=>?_))<;>first|(simp_all [bA.plus,ieq];done)|(simp_all [bA.plus,ieq];omega)))
theorem P5(a b c d:Int):(dY Tryz.prog 55 .eql).run (.agg [.i .i64 a,.i .i64 b]) (.agg [.i .i64 c,.i .i64 d])=bnd (bc (fM a c) (bc (fM b d) (some true) (some false)) (some false)) λe=>some (.b e):=by kernel_rfl
@[go_sem] theorem aeb (a b c d:Int):(dY Tryz.prog 55 .eql).run (.agg [.i .i64 a,.i .i64 b]) (.agg [.i .i64 c,.i .i64 d])=some (.b (decide (a=c)&&decide (b=d))):=by
 rw[P5,cK,cK];by_cases h1:a=c<;>by_cases h2:b=d<;>simp[h1,h2,bc,bnd]
theorem Um(K:Nat)(hC:aY h n v C)(a:dh)(hQ:∀h' n',Up h n h' n'->Q (.b (C.oV a)) h' n'):CW (EF (K+4)) 169 [.agg (v.av C),.agg a.av] h n Q:=by
 refine aD ad6 rfl ?_;repeat' (first|(simp (disch:=omega) only[go_sem,simprocAttr,ub.old,Ug,CS.av,dh.av,hC.units.len])|(simp (disch:=omega) only[go_sem,simprocAttr,Ug,CS.av,dh.av,hC.units.len])|((first|rw[aU]|rw[bR]);with_reducible refine nL _ (hC.up aI) _ λh2 n2 u2=>?_;(first|replace ub:=Up.trans ub (Up.trans aI u2)|have ub:=u2);have hle:=ub.le;clear u2)|((first|rw[aU]|rw[bR]);with_reducible refine Ib _ λh2 n2 u2=>?_;(first|replace ub:=Up.trans ub (Up.trans aI u2)|have ub:=u2);have hle:=ub.le;clear u2)|((first|rw[aU]|rw[bR]);with_reducible refine pJ _ a.lot λh2 n2 u2=>?_;(first|replace ub:=Up.trans ub (Up.trans aI u2)|have ub:=u2);have hle:=ub.le;clear u2)|(refine aT ?_ ?_<;>(intro hb hd;rw[hb];clear hb))|(with_reducible refine aj ?_))
 any_goals(first|(with_reducible refine bW hQ ?_ aI;first|(simp[aA.oV,oU,bA.zero,ieq];done)|(simp[aA.oV,oU,bA.zero,ieq];omega)|(simp_all [aA.oV,oU,bA.zero,ieq];done)|(simp_all [aA.oV,oU,bA.zero,ieq];omega))|((with_reducible refine f_ hQ aI (λhz=>?_) (λhz=>?_))<;>first|(simp_all [aA.oV,oU,bA.zero,ieq];done)|(simp_all [aA.oV,oU,bA.zero,ieq];omega)))
 all_goals trace_state
 done
end
end
noncomputable section
variable {h:AH} {n:Nat} {Q:AV->AH->Nat->Prop} {v:CS} {C:aA} {x:AV} {us:List dB}
theorem DT(K:Nat)(hx:SL h n 5 x dB.av us)(i:Int)(hQ:∀h' n',Up h n h' n'->Q (.b (lF us i)) h' n'):CW (EF (K+1)) 283 [x,.i .i64 i] h n Q:=by
 refine aD ad9 rfl ?_;repeat' (first|(simp (disch:=omega) only[go_sem,simprocAttr,Yw,hx.len])|(refine aT ?_ ?_<;>(intro hb hd;rw[hb];clear hb))|(with_reducible refine aj ?_))
 all_goals(first|(with_reducible refine bW hQ ?_ aI;first|(simp[lF,ieq];done)|(simp[lF,ieq];omega)|(simp_all [lF,ieq];done)|(simp_all [lF,ieq];omega))|((with_reducible refine f_ hQ aI (λhz=>?_) (λhz=>?_))<;>first|(simp_all [lF,ieq];done)|(simp_all [lF,ieq];omega)))
theorem P6(K:Nat)(hx:SL h n 5 x dB.av us)(hl:us.length<=1000){i:Nat}{u:dB}(hi:us[i]?=some u)(hQ:∀h' n',Up h n h' n'->Q (.b (fJ us i u)) h' n'):CW (EF (K+3)) 252 [x,.i .i64 (i:Nat)] h n Q:=by
 have hil:=(List.getElem?_eq_some_iff.1 hi).1;refine aD ad_ rfl ?_;repeat' (first|(simp (disch:=omega) only[go_sem,simprocAttr,ub.old,Ui])|(simp (disch:=omega) only[go_sem,simprocAttr,Ui])|(refine aT ?_ ?_<;>(intro hb hd;rw[hb];clear hb))|(with_reducible refine aj ?_))
 refine gZ hx (by omega) (by omega) (by omega) λb o a ha hb rd=>?_;rw[show((i:Nat):Int).toNat=i by omega,hi]at ha;cases ha;obtain⟨y,hy,hs⟩:=SL.take hx (i:=i) (by omega) (by omega);repeat' (first|(simp (disch:=omega) only[go_sem,simprocAttr,ub.old,rd.el,rd.hd,rd.all,dB.av,hy,hs.len])|(simp (disch:=omega) only[go_sem,simprocAttr,rd.el,rd.hd,rd.all,dB.av,hy,hs.len])|(refine aT ?_ ?_<;>(intro hb hd;rw[hb];clear hb))|(with_reducible refine aj ?_))
 any_goals(first|(with_reducible refine bW hQ ?_ aI;first|(simp[fJ,BZ,ieq];done)|(simp[fJ,BZ,ieq];omega)|(simp_all [fJ,BZ,ieq];done)|(simp_all [fJ,BZ,ieq];omega))|((with_reducible refine f_ hQ aI (λhz=>?_) (λhz=>?_))<;>first|(simp_all [fJ,BZ,ieq];done)|(simp_all [fJ,BZ,ieq];omega)))
 have hd1:BZ i u.name=true:=by simp_all [BZ]
 generalize hh:Tr.set (Tr.set h n _) n _=hb0;have u0:Up h n hb0 (n+1):=by rw[<-hh];exact aI
 have g1:hb0.get n=some (.row 167 u.av):=by rw[<-hh];exact tQ
 clear hh;have hlen:(us.take i).length=i:=by rw[List.length_take];omega
 refine gI (us.take i).length (λk=>∀j w,j<k->(us.take i)[j]?=some w->¬w.name.toList=u.name.toList) hb0 (n+1) (λk=>[(0,x),(1,.i .i64 (i:Nat)),(4,.b false),(5,.p n 0),(21,y)]) (by omega) (by omega) (by omega) (by omega) (λ_=>⟨rfl,rfl⟩) rfl rfl (by(repeat' (first|exact aR|refine aN rfl ?_))) aI (by omega) (λk h' n' hk hr u1=>?_) (λh' n' hr u1=>?_)
 .have g2:=(u1.old n (by omega)).trans g1
  have ule:=u1.le;repeat' (first|(simp (disch:=omega) only[go_sem,simprocAttr,ub.old])|(simp (disch:=omega) only[go_sem,simprocAttr])|(refine aT ?_ ?_<;>(intro hb hd;rw[hb];clear hb))|(with_reducible refine aj ?_))
  refine gZ hs (by omega) (by omega) (by omega) λb2 o2 w hw hbn gu=>?_;rw[show((k:Nat):Int).toNat=k by omega]at hw;have ua:=(u1.old b2 (by omega)).trans (u0.old b2 hbn);repeat' (first|(simp (disch:=omega) only[go_sem,simprocAttr,ub.old,gu.el,gu.hd,gu.all,ua,g2,dB.av])|(simp (disch:=omega) only[go_sem,simprocAttr,gu.el,gu.hd,gu.all,ua,g2,dB.av])|(refine aT ?_ ?_<;>(intro hb hd;rw[hb];clear hb))|(with_reducible refine aj ?_))
  .refine bW hQ ?_ aI
   rename_i hd;have:newName (us.take i) u.name=false:=by
    unfold newName;rw[List.all_eq_false];exact⟨w,List.mem_of_getElem? hw,by simp[hd]⟩
   simp[fJ,this]
  .rename_i hd
   refine iB rfl rfl (λj w' hj hw'=>?_) aI (by(repeat' (first|exact aR|refine aN rfl ?_)));by_cases e:j=k
   .subst e;rw[hw]at hw';cases hw';exact hd
   .exact hr j w' (by omega) hw'
 .have g2:=(u1.old n (by omega)).trans g1
  have ule:=u1.le;have hn:newName (us.take i) u.name=true:=by
   unfold newName;rw[List.all_eq_true];intro w hw;obtain⟨j,hj⟩:=List.getElem?_of_mem hw;have:=hr j w (List.getElem?_eq_some_iff.1 hj).1 hj;simp[this]
  by_cases hb:lF us u.base=true
  .have hb2:=hb
   simp only[lF,Bool.and_eq_true,decide_eq_true_eq]at hb2;obtain⟨b3,o3,z,q1,q2,q3,q4⟩:=hx.gD hb2.1 hb2.2 (by omega);have ua:=(u1.old b3 (by omega)).trans (u0.old b3 (by omega));repeat' (first|(simp (disch:=omega) only[go_sem,simprocAttr,ub.old,g2,dB.av,q1,ua,q4.el,q4.hd,hb])|(simp (disch:=omega) only[go_sem,simprocAttr,g2,dB.av,q1,ua,q4.el,q4.hd,hb])|((first|rw[aU]|rw[bR]);with_reducible refine ze _ u.factor λh2 n2 u2=>?_;(first|replace ub:=Up.trans ub (Up.trans aI u2)|have ub:=u2);have hle:=ub.le;clear u2)|((first|rw[aU]|rw[bR]);with_reducible refine DT _ (hx.up aI) _ λh2 n2 u2=>?_;(first|replace ub:=Up.trans ub (Up.trans aI u2)|have ub:=u2);have hle:=ub.le;clear u2)|(refine aT ?_ ?_<;>(intro hb hd;rw[hb];clear hb))|(with_reducible refine aj ?_))
   any_goals(first|(with_reducible refine bW hQ ?_ aI;first|(simp[fJ,vJ,vK,Fw,yI,yJ,ieq];done)|(simp[fJ,vJ,vK,Fw,yI,yJ,ieq];omega)|(simp_all [fJ,vJ,vK,Fw,yI,yJ,ieq];done)|(simp_all [fJ,vJ,vK,Fw,yI,yJ,ieq];omega))|((with_reducible refine f_ hQ aI (λhz=>?_) (λhz=>?_))<;>first|(simp_all [fJ,vJ,vK,Fw,yI,yJ,ieq];done)|(simp_all [fJ,vJ,vK,Fw,yI,yJ,ieq];omega)))
  .repeat' (first|(simp (disch:=omega) only[go_sem,simprocAttr,ub.old,g2,dB.av,hb])|(simp (disch:=omega) only[go_sem,simprocAttr,g2,dB.av,hb])|((first|rw[aU]|rw[bR]);with_reducible refine ze _ u.factor λh2 n2 u2=>?_;(first|replace ub:=Up.trans ub (Up.trans aI u2)|have ub:=u2);have hle:=ub.le;clear u2)|((first|rw[aU]|rw[bR]);with_reducible refine DT _ (hx.up aI) _ λh2 n2 u2=>?_;(first|replace ub:=Up.trans ub (Up.trans aI u2)|have ub:=u2);have hle:=ub.le;clear u2)|(refine aT ?_ ?_<;>(intro hb hd;rw[hb];clear hb))|(with_reducible refine aj ?_))
   any_goals(first|(with_reducible refine bW hQ ?_ aI;first|(simp[fJ,vJ,vK,ieq];done)|(simp[fJ,vJ,vK,ieq];omega)|(simp_all [fJ,vJ,vK,ieq];done)|(simp_all [fJ,vJ,vK,ieq];omega))|((with_reducible refine f_ hQ aI (λhz=>?_) (λhz=>?_))<;>first|(simp_all [fJ,vJ,vK,ieq];done)|(simp_all [fJ,vJ,vK,ieq];omega)))
theorem ME(K:Nat)(hx:SL h n 5 x dB.av us)(hl:us.length<=1000)(hQ:∀i h' n',Up h n h' n'->Q (.bQ [.i .i64 i,.b (nC us)]) h' n'):CW (EF (K+4)) 168 [x] h n Q:=by
 refine aD c168 rfl ?_;repeat' (first|(simp (disch:=omega) only[go_sem,simprocAttr,ub.old,Uj,hx.len])|(simp (disch:=omega) only[go_sem,simprocAttr,Uj,hx.len])|(refine aT ?_ ?_<;>(intro hb hd;rw[hb];clear hb))|(with_reducible refine aj ?_))
 refine gI us.length (λk=>∀i u,i<k->us[i]?=some u->fJ us i u=true) h n (λk=>[(0,x),(3,.b false)]) (by omega) (by omega) (by omega) (by omega) (λ_=>⟨rfl,rfl⟩) rfl rfl (by(repeat' (first|exact aR|refine aN rfl ?_))) aI (by omega) (λk h' n' hk hr u1=>?_) (λh' n' hr u1=>?_)
 .obtain⟨u,hu⟩:∃u,us[k]?=some u:=⟨us[k],List.getElem?_eq_some_iff.2 ⟨hk,rfl⟩⟩
  repeat' (first|(simp (disch:=omega) only[go_sem,simprocAttr,ub.old])|(simp (disch:=omega) only[go_sem,simprocAttr])|((first|rw[aU]|rw[bR]);with_reducible refine P6 _ (hx.up aI) hl hu λh2 n2 u2=>?_;(first|replace ub:=Up.trans ub (Up.trans aI u2)|have ub:=u2);have hle:=ub.le;clear u2)|(refine aT ?_ ?_<;>(intro hb hd;rw[hb];clear hb))|(with_reducible refine aj ?_))
  .rw[show AV.b false=AV.b (nC us) by
    congr 1;symm;unfold nC;rw[List.all_eq_false];exact⟨k,List.mem_range.2 hk,by rw[hu];simp[hd]⟩]
   exact hQ _ _ _ aI
  .refine iB rfl rfl (λj w' hj hw'=>?_) aI (by(repeat' (first|exact aR|refine aN rfl ?_)))
   by_cases e:j=k
   .subst e;rw[hu]at hw';cases hw';exact hd
   .exact hr j w' (by omega) hw'
 .repeat' (first|(simp (disch:=omega) only[go_sem,simprocAttr,ub.old])|(simp (disch:=omega) only[go_sem,simprocAttr])|(refine aT ?_ ?_<;>(intro hb hd;rw[hb];clear hb))|(with_reducible refine aj ?_))
  rw[show AV.b true=AV.b (nC us) by
   congr 1;symm;unfold nC;rw[List.all_eq_true];intro i hi;have hi:=List.mem_range.1 hi;obtain⟨u,hu⟩:∃u,us[i]?=some u:=⟨us[i],List.getElem?_eq_some_iff.2 ⟨hi,rfl⟩⟩;rw[hu];exact hr i u hi hu]
  exact hQ _ _ _ aI
end
end Go.Proofs.YtjoohkjmoghmoaaGreatDoor

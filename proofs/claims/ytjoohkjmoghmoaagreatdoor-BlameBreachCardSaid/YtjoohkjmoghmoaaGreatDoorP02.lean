/- part -/
import Derived.Test.YtjoohkjmoghmoaaGreatDoorP01
import Derived.Laws.IdiomStrings
import Derived.RangeFuncRecord
import Derived.OrdersIn
set_option linter.all false
namespace Go.Proofs.YtjoohkjmoghmoaaGreatDoor
section
section
variable {P:Program} {sl:FuncId->Sl} {θ:Th} {h h':AH} {n n':Nat} {w:World} {s:Sl} {L:List Tmp} {t:Tr AV} {l:List AV} {ac:Act} {o:Oper} {f:FT} {v:AV}
theorem tJ{c:Call}{b:Builtin}{x y:Operand}(ho:o.op= .call c)(hc:c.callee= .builtin b)(ha:c.args.toList=[x,y]):∃cs,(execOp ac.eval o).run P w=(builtin b c.argTypes o.type cs #[ac.eval x,ac.eval y]).run P w:=by
 have hm:c.args.map ac.eval=#[ac.eval x,ac.eval y]:=Array.toList_inj.1 (by simp[ha]);simp only[execOp,ho,resolve,hc,hm];exact⟨_,rfl⟩
theorem Br{c:Call}{b:Builtin}{x:Operand}(ho:o.op= .call c)(hc:c.callee= .builtin b)(ha:c.args.toList=[x]):∃cs,(execOp ac.eval o).run P w=(builtin b c.argTypes o.type cs #[ac.eval x]).run P w:=by
 have hm:c.args.map ac.eval=#[ac.eval x]:=Array.toList_inj.1 (by simp[ha]);simp only[execOp,ho,resolve,hc,hm];exact⟨_,rfl⟩
theorem ES{c:Call}{ty EL:TypeId}{a x:Operand}(ho:o.op= .call c)(hc:c.callee= .builtin .append)(ha:c.args.toList=[a,x])(hty:c.argTypes.toList=[ty,EL])(e:(xu P s L ty EL a x).run f t l h n= .ok v h' n')(hT:RT s θ t ac.tmps)(hL:LR s θ L l ac.tmps)(H:RH P sl θ h n w):KG P sl θ h w ((execOp ac.eval o).run P w) v h' n':=by
 unfold xu at e;split at e
 case h_2=>cases e
 rename_i el i z hu hi hz;rw[Di hu]at hi hz;cases g1:V3 P EL with
 |false=>rw[g1]at e;cases e
 |true=>
 rw[g1,bD]at e;cases g2:Nat.beq (mM z) i.size with
 |false=>rw[g2]at e;cases e
 |true=>
 rw[g2,bD]at e;cases g3:Nat.beq i.size 0 with
 |true=>rw[g3]at e;cases e
 |false=>
 rw[g3,fU]at e;cases g4:Nat.ble i.bytes 65536 with
 |false=>rw[g4]at e;cases e
 |true=>
 rw[g4,bD]at e;obtain⟨av,k1,k2⟩:=aS (show aJ ((co s L a).run t l) _= .ok v h' n' from e);obtain⟨xv,k3,k4⟩:=aS k2;obtain⟨i',zv,e1,e2,e3,e4⟩:=jP (θ:=θ) hz;rw[hi]at e1;cases e1;have hzs:zv.cells.size=i.size:=by
  have:=beq_eq g2;rw[eF]at this;have h5:=e3.length;rw[Array.length_toList]at h5;omega
 obtain⟨bP,u,w',q1,q2,q3,q4⟩:=ER (P:=P) (rt:=o.type) hu hi e2 hzs e4 (Nat.le_of_ble_eq_true g4) g1 k4 (bF k1 hT hL) (bF k3 hT hL) H;refine⟨bP,u,w',.inl ?_,q2,q3,q4⟩;have hat:c.argTypes=#[ty,EL]:=Array.toList_inj.1 (by rw[hty]);obtain⟨cs,hb⟩:=tJ (P:=P) (w:=w) (ac:=ac) ho hc ha;rw[hb,hat];simp[builtin,q1]
theorem Lc{ty e EL:TypeId}{i:TypeInfo}{rt:TypeId}(ht:P.underlying ty=some (.slice e))(hi:P.info? e=some i){d x:AV}{D X:Value}{tys:Array TypeId}(hty:tys[0]?=some ty)(er:qU i.size h n d x= .ok v h' n')(hd:aV θ d D)(hx:aV θ x X)(H:RH P sl θ h n w):
 ∃bP u w',(Builtin.copy_ tys rt #[D,X]).run P w= .ok u w'/\aV bP v u/\RH P sl bP h' n' w'/\Fr θ h w bP h' w':=by
 replace er:=aS (show aJ (lM d) _= .ok v h' n' from er);obtain⟨ld,h1,er⟩:=er;replace er:=aS er;obtain⟨lx,h2,er⟩:=er;replace er:=aS er;obtain⟨cx,h3,er⟩:=er;obtain⟨us,g1,g2,g3,_⟩:=xA (P:=P) h3 hx H;have hlx:=(G_ (P:=P) (w:=w) h2 hx).1;split at er
 .rename_i b m o0 k c
  cases h1
  obtain⟨r,q,hr,_,rfl⟩:=hd;split at er
  case h_2=>cases er
  rename_i t0 l0 hg;obtain⟨m0,h6,er⟩:=aS er;cases er
  obtain⟨q1,q2,q3⟩:=H.write (P:=P) hg hr h6 g2 g3;refine⟨θ,goInt (Nat.min lx ld),_,?_,rfl,q2,q3⟩;have g1':=g1 w rfl;simp[Builtin.copy_,hty,run_underlying ht,hlx,sizeOf,typeInfo,hi,g1',q1]
 .cases er;cases h1;cases hd
  refine⟨θ,goInt 0,w,?_,rfl,H,Fr.refl _ _ _⟩;have g1':=g1 w rfl;have e0:lx.min 0=0:=Nat.min_zero lx;rw[e0]at g1';simp[Builtin.copy_,hty,run_underlying ht,hlx,sizeOf,typeInfo,hi,g1',kv,e0]
 .cases er
theorem uZ{x:Option Int}{d k:Nat}(e:AZ x d=some k):(x=none/\k=d)\/x=some (k:Int):=by
 cases x with
 |none=>cases e;exact .inl ⟨rfl,rfl⟩
 |some i=>cases i with
  |ofNat j=>cases e;exact .inr rfl
  |negSucc j=>cases e
theorem Bt{x:Option Operand}{r:Option Int}(e:(sU s L x).run t l=some r)(hT:RT s θ t ac.tmps)(hL:LR s θ L l ac.tmps):(x.map ac.eval=none/\r=none)\/∃k i,x.map ac.eval=some (.int k i)/\r=some i:=by
 cases x with
 |none=>cases e;exact .inl ⟨rfl,rfl⟩
 |some x=>
  simp only[sU]at e;split at e
  .rename_i k i h0;cases e
   have hq:ac.eval x= .int k i:=bF h0 hT hL;exact .inr ⟨k,i,congrArg some hq,rfl⟩
  .cases e
theorem Ld{c:Call}{ty:TypeId}{rest:List TypeId}{d x:Operand}(ho:o.op= .call c)(hc:c.callee= .builtin .copy)(ha:c.args.toList=[d,x])(hty:c.argTypes.toList=ty::rest)(e:(GY P s L ty d x).run f t l h n= .ok v h' n')(hT:RT s θ t ac.tmps)(hL:LR s θ L l ac.tmps)(H:RH P sl θ h n w):KG P sl θ h w ((execOp ac.eval o).run P w) v h' n':=by
 unfold GY at e;split at e
 case h_2=>cases e
 rename_i el hu;split at e
 case h_2=>cases e
 rename_i sz hsz;obtain⟨i,hi,rfl⟩:=iL hsz;obtain⟨dv,k1,k2⟩:=aS (show aJ ((co s L d).run t l) _= .ok v h' n' from e);obtain⟨xv,k3,k4⟩:=aS k2;have h0:c.argTypes[0]?=some ty:=by rw[<-Array.getElem?_toList,hty];rfl
 obtain⟨bP,u,w',q1,q2,q3,q4⟩:=Lc (P:=P) (EL:=0) (rt:=o.type) hu hi h0 k4 (bF k1 hT hL) (bF k3 hT hL) H;refine⟨bP,u,w',.inl ?_,q2,q3,q4⟩;obtain⟨cs,hb⟩:=tJ (P:=P) (w:=w) (ac:=ac) ho hc ha;rw[hb];simp[builtin,q1]
theorem Es.length:∀{es:List (AV×AV×Nat)}{l0:List MapEntry},Es θ es l0->l0.length=es.length
 |[],_,e=>by rw[Es]at e;subst e;rfl
 |(_,_,_)::es,_,e=>by obtain⟨m,ms,_,_,_,e5,rfl⟩:=e;simp[Es.length e5]
theorem O5{c:Call}{ty:TypeId}{x:Operand}(ho:o.op= .call c)(hc:c.callee= .builtin .len)(ha:c.args.toList=[x])(hty:c.argTypes.toList=[ty])(e:(KZ P s L ty x).run f t l h n= .ok v h' n')(hT:RT s θ t ac.tmps)(hL:LR s θ L l ac.tmps)(H:RH P sl θ h n w):gM P sl θ h n w ((execOp ac.eval o).run P w) v h' n':=by
 obtain⟨cs,hb⟩:=Br (P:=P) (w:=w) (ac:=ac) ho hc ha;have hat:c.argTypes=#[ty]:=Array.toList_inj.1 (by rw[hty]);rw[hb,hat];unfold KZ at e;split at e
 .rename_i hu
  simp only at e;split at e
  .rename_i q h0
   have hp:ac.eval x= .string ⟨q.toArray⟩:=bF h0 hT hL;cases e
   refine .same H (u:=goInt q.length) ?_ (by rw[eF];rfl);have hs:(⟨q.toArray⟩:ByteArray).size=q.length:=by show q.toArray.size=_;simp
   simp[builtin,Builtin.len_,run_underlying hu,hp,hs]
  .cases e
 .rename_i el hu
  simp only at e;split at e
  .rename_i a b c0 m d h0
   obtain⟨r,q,hr,_,hp⟩:=bF h0 hT hL;cases e
   exact .same H (u:=goInt m) (by simp[builtin,Builtin.len_,run_underlying hu,hp]) rfl
  .rename_i h0
   have hp:ac.eval x=kv 1:=bF h0 hT hL;cases e
   exact .same H (u:=goInt 0) (by simp[builtin,Builtin.len_,run_underlying hu,hp,kv]) rfl
  .rename_i h0
   obtain⟨a,d,hp⟩:=bF h0 hT hL;cases e
   exact .same H (u:=goInt 0) (by simp[builtin,Builtin.len_,run_underlying hu,hp]) rfl
  .cases e
 .rename_i m el hu
  obtain⟨xv,k1,k2⟩:=aS (show aJ ((co s L x).run t l) _= .ok v h' n' from e);cases k2
  exact .same H (u:=goInt m) (by simp[builtin,Builtin.len_,run_underlying hu]) rfl
 .rename_i kt el hu
  simp only at e;split at e
  .rename_i r h0
   obtain⟨es,g1,g2⟩:=aS e;cases g2
   obtain⟨oK,g3⟩:=Af g1;obtain⟨r',q,hr,hp⟩:=bF h0 hT hL;obtain⟨r2,c2,obj,e1,e2,en,rfl,e3⟩:=H.at_ _ _ g3;rw[hr]at e1;cases e1;have hlen:en.size=es.length:=by
    rw[<-Array.length_toList];exact Es.length e3
   refine .same H (u:=goInt es.length) ?_ (by rw[eF];rfl);simp[builtin,Builtin.len_,run_underlying hu,hp,getObj,Sem.run,e2,hlen]
  .rename_i h0
   have hp:ac.eval x=kv 2:=bF h0 hT hL;cases e
   exact .same H (u:=goInt 0) (by simp[builtin,Builtin.len_,run_underlying hu,hp,kv]) rfl
  .cases e
 .cases e
theorem u_:∀{c:List AV}{vs:List Value}{b:List UInt8},oF c=some b->eU θ c vs->vs=b.map λx=>Value.int .u8 x.toNat
 |[],_,_,e,hv=>by cases e;rw[eU]at hv;subst hv;rfl
 |a::c,_,b,e,hv=>by
  obtain⟨v0,vs,h1,h2,rfl⟩:=hv;obtain⟨q,g1,g2⟩:=aB (show bnd (GU a) _=some b from e);obtain⟨r,g3,g4⟩:=aB g2;cases g4
  have ih:=u_ g3 h2;unfold GU at g1;split at g1
  .rename_i k
   obtain⟨g5,g6⟩:=bI g1;cases g6;cases h1
   have hk:k<=255:=Nat.le_of_ble_eq_true g5;have:(UInt8.ofNat k).toNat=k:=by simp;omega
   rw[List.map_cons,ih,this];rfl
  .cases g1
theorem vg{lo hi:Option Operand}{rl rh:Option Int}{len cap a z:Nat}{b:Bool}(e1:(sU s L lo).run t l=some rl)(e2:(sU s L hi).run t l=some rh)(hT:RT s θ t ac.tmps)(hL:LR s θ L l ac.tmps)
 (h1:AZ rl 0=some a)(h2:AZ rh len=some z)(h3:a<=z)(h4:z<=cap\/rh=none):(Instr.sliceBounds b len cap (lo.map ac.eval) (hi.map ac.eval) none).run P w= .ok (a,z,cap) w:=by
 rcases Bt e2 hT hL with⟨g1,rfl⟩|⟨k,i,g1,rfl⟩
 .cases h2
  rcases Bt e1 hT hL with⟨q1,rfl⟩|⟨j,y,q1,rfl⟩
  .cases h1;rw[g1,q1];rfl
  .rcases uZ h1 with⟨g2,_⟩|g2<;>cases g2
   rw[g1,q1];simp[Instr.sliceBounds,Instr.sliceBound,asIntOf,h3]
 .have h5:z<=cap:=by rcases h4 with h4|h4;exact h4;cases h4
  rcases uZ h2 with⟨g2,_⟩|g2<;>cases g2
  rcases Bt e1 hT hL with⟨q1,rfl⟩|⟨j,y,q1,rfl⟩
  .cases h1;rw[g1,q1];simp[Instr.sliceBounds,Instr.sliceBound,asIntOf,h5]
  .rcases uZ h1 with⟨g2,_⟩|g2<;>cases g2
   rw[g1,q1];simp[Instr.sliceBounds,Instr.sliceBound,asIntOf,h3,h5]
theorem Dl{c d:TypeId}{x:Operand}(ho:o.op= .convert c d x)(e:(oI P s L c d x).run f t l h n= .ok v h' n')(hT:RT s θ t ac.tmps)(hL:LR s θ L l ac.tmps)(H:RH P sl θ h n w):gM P sl θ h n w ((execOp ac.eval o).run P w) v h' n':=by
 unfold oI at e;split at e
 .rename_i dd k hc hd
  simp only at e;split at e
  .rename_i k0 i h0
   have hp:ac.eval x= .int k0 i:=bF h0 hT hL;cases e
   refine .same H (u:=.int k (k.wrap i)) ?_ (by rw[uY];rfl);simp[execOp,ho,hp,convert,run_underlying hc,run_underlying hd,Conv.intToInt]
  .cases e
 .rename_i hc hd
  simp only at e;split at e
  .rename_i q h0
   have hp:ac.eval x= .string ⟨q.toArray⟩:=bF h0 hT hL;cases e
   refine .same H ?_ rfl;simp[execOp,ho,hp,convert,run_underlying hc,run_underlying hd]
  .cases e
 .rename_i el hc hd
  cases hu:OP P el with
  |false=>rw[hu]at e;cases e
  |true=>
   rw[hu,bD]at e;have he:P.underlying el=some (.int .u8):=by
    unfold OP at hu;split at hu
    .assumption
    .cases hu
   simp only at e;split at e
   .rename_i h0
    have hp:ac.eval x= .slice none 0 0:=bF h0 hT hL;cases e
    refine .same H (u:=.string .empty) ?_ rfl;simp[execOp,ho,hp,convert,run_underlying hc,run_underlying hd,run_underlying he,Conv.bytesToString]
   .rename_i b m o0 k c0 h0
    have hv:=bF h0 hT hL;obtain⟨u,g1,g2⟩:=aS e;obtain⟨bs,g3,g4⟩:=aS g2;cases g4
    obtain⟨us,k1,k2,k3,k4⟩:=xA (P:=P) g1 hv H;have hus:=u_ g3 k2;have hlen:bs.length=k:=by have:=k4 rfl;rw[hus]at this;simpa using this
    obtain⟨r,q,hr,_,hp⟩:=hv;have hl:=k1 w rfl;refine .same H (u:=.string ⟨bs.toArray⟩) ?_ rfl;have hcell:∀j (hj:j<bs.length),w.cell? ((⟨r,o0,none⟩:Addr).add j)=some (.int .u8 (bs[j].toNat:Int)):=by
     intro j hj;obtain⟨l0,q1,q2⟩:=aB (show bnd (iD (h.get b) o0 _) _=some u from g1);obtain⟨r',c',cs,t0,fz,vs,e1,e2,e4,e5,e6⟩:=H.cut q1;rw[hr]at e1;cases e1;obtain⟨q4,rfl⟩:=jN q2;have heq:=u_ g3 (e4.take (Nat.mul k 1));rw[Addr.add_mid,iy e2];apply e6;have:(vs.take (Nat.mul k 1))[j]?=some (.int .u8 (bs[j].toNat:Int)):=by
      rw[heq];simp[hj]
     rw[List.getElem?_take]at this;split at this
     .exact this
     .cases this
    have hrun:=run_convert_bytes_back (P:=P) w c d el ⟨r,o0,none⟩ (c0.getD (q - m)) bs hc he hd hcell;rw[hlen]at hrun;simp[execOp,ho,hp,hrun]
   .cases e
 .cases e
theorem I8{ty:TypeId}{x:Operand}{lo hi:Option Operand}(ho:o.op= .slice ty x lo hi none)(e:(xU P s L ty x lo hi).run f t l h n= .ok v h' n')(hT:RT s θ t ac.tmps)(hL:LR s θ L l ac.tmps)(H:RH P sl θ h n w):gM P sl θ h n w ((execOp ac.eval o).run P w) v h' n':=by
 unfold xU at e;split at e
 .rename_i hu
  obtain⟨rl,k1,e⟩:=aS (show aJ ((sU s L lo).run t l) _= .ok v h' n' from e);obtain⟨rh,k2,e⟩:=aS e;split at e
  .rename_i c h0
   have hp:ac.eval x= .string ⟨c.toArray⟩:=bF h0 hT hL;obtain⟨g1,rfl,rfl⟩:=gT e;obtain⟨a,g2,g3⟩:=aB g1;obtain⟨z,g4,g5⟩:=aB g3;obtain⟨g6,g7⟩:=bI g5;obtain⟨u,g8,g9⟩:=aB g7;cases g9
   obtain⟨g10,rfl⟩:=jN g8;rw[eF]at g4;have hs:(⟨c.toArray⟩:ByteArray).size=c.length:=by show c.toArray.size=_;simp
   have hb:=vg (P:=P) (w:=w) (cap:=c.length) (b:=false) k1 k2 hT hL g2 g4 (Nat.le_of_ble_eq_true g6) (.inl g10);refine .same H (u:=.string ((⟨c.toArray⟩:ByteArray).extract a z)) ?_ ?_
   .simp[execOp,ho,hp,Instr.sliceAt,Instr.slice,run_underlying hu,hs,hb]
   .show _=Value.string _
    congr 1;apply ByteArray.ext;rw[rP];rw[ByteArray.data_extract];apply Array.toList_inj.1;rw[Array.toList_extract,List.extract_eq_take_drop];simp[List.drop_take]
  .cases e
 .rename_i el hu
  split at e
  case h_2=>cases e
  rename_i sz hsz;obtain⟨i,hi,rfl⟩:=iL hsz;obtain⟨rl,k1,e⟩:=aS (show aJ ((sU s L lo).run t l) _= .ok v h' n' from e);obtain⟨rh,k2,e⟩:=aS e;split at e
  .rename_i b m o0 k c h0
   obtain⟨r,d,hr,hd,hp⟩:=bF h0 hT hL;obtain⟨g1,rfl,rfl⟩:=gT e;obtain⟨a,g2,g3⟩:=aB g1;obtain⟨z,g4,g5⟩:=aB g3;obtain⟨g6,g7⟩:=bI g5;have haz:a<=z:=Nat.le_of_ble_eq_true g6;have fin:∀(C:Nat),c.getD (d - m)=C->z<=C\/rh=none->(execOp ac.eval o |>.run P w)= .ok (.value (.slice (some (if C=a then⟨r,o0,none⟩else⟨r,o0+a*i.size,none⟩)) (z - a) (C - a))) w:=by
    intro C hC hz;have hb:=vg (P:=P) (w:=w) (cap:=C) (b:=true) k1 k2 hT hL g2 g4 haz hz;simp only[execOp,ho,hp,Option.map_none,Instr.sliceAt,Sem.run_bind,run_underlying hu,Result.andThen_ok,Instr.slice,hC,hb,sizeOf,typeInfo,run_program,hi,Sem.run_pure,Option.map_some,Addr.add_mid];split<;>rfl
   cases c with
   |none=>
    obtain⟨q1,q2⟩:=bI (show bc (Nat.ble z k) _ none=some v from g7);have hzk:z<=k:=Nat.le_of_ble_eq_true q1;have hmd:m+k<=d:=hd rfl;have hf:=fin (d - m) rfl (.inl (by omega));cases q3:Nat.beq a 0 with
    |true=>
     rw[q3,bD]at q2;cases q2;obtain rfl:=beq_eq q3;refine .same H hf ⟨r,d,hr,λ_=>by omega,?_⟩;simp
    |false=>
     rw[q3,fU]at q2;cases q4:Nat.ble (Nat.succ a) z with
     |true=>
      rw[q4,bD]at q2;cases q2;have ajN:a+1<=z:=Nat.le_of_ble_eq_true q4;refine .same H hf ⟨r,d,hr,λ_=>?_,?_⟩
      .show m+a+(z - a)<=d;omega
      .rw[if_neg (by omega)]
       show _=Value.slice (some ⟨r,o0+a*i.size,none⟩) (z - a) (d - (m+a));rw[Nat.sub_sub]
     |false=>
      rw[q4,fU]at q2;cases q2;have:¬a+1<=z:=λh=>by rw[Nat.ble_eq_true_of_le h]at q4;cases q4
      refine .same H hf ?_;rw[show z - a=0 by omega];exact⟨_,_,rfl⟩
   |some c=>
    obtain⟨q1,q2⟩:=bI (show bc (Nat.ble z c) _ none=some v from g7);cases q2
    have hzk:z<=c:=Nat.le_of_ble_eq_true q1;refine .same H (fin c rfl (.inl hzk)) ⟨r,d,hr,(λh=>by cases h),?_⟩;cases q3:Nat.beq c a with
    |true=>obtain rfl:=beq_eq q3;simp[bc]
    |false=>
     have:¬c=a:=λe0=>by subst e0;rw[Nat.beq_refl]at q3;cases q3
     simp[bc,this]
  .cases e
 .rename_i m el hu
  split at e
  case h_2=>cases e
  rename_i sz hsz;obtain⟨i,hi,rfl⟩:=iL hsz;obtain⟨rl,k1,e⟩:=aS (show aJ ((sU s L lo).run t l) _= .ok v h' n' from e);obtain⟨rh,k2,e⟩:=aS e;split at e
  .rename_i b o0 h0
   obtain⟨r,d,hr,hp⟩:=bF h0 hT hL;obtain⟨g1,rfl,rfl⟩:=gT e;obtain⟨a,g2,g3⟩:=aB g1;obtain⟨z,g4,g5⟩:=aB g3;obtain⟨g6,g7⟩:=bI g5;obtain⟨g8,g9⟩:=bI g7;cases g9
   have haz:a<=z:=Nat.le_of_ble_eq_true g6;have hzm:z<=m:=Nat.le_of_ble_eq_true g8;have hb:=vg (P:=P) (w:=w) (cap:=m) (b:=false) k1 k2 hT hL g2 g4 haz (.inl hzm);refine .same H (u:=.slice (some (if m=a then⟨r,o0,none⟩else⟨r,o0+a*i.size,none⟩)) (z - a) (m - a)) ?_ ⟨r,d,hr,(λh=>by cases h),?_⟩
   .simp only[execOp,ho,hp,Option.map_none,Instr.sliceAt,Instr.sureAddr,Sem.run_bind,run_underlying hu,Result.andThen_ok,hb,sizeOf,typeInfo,run_program,hi,Sem.run_pure,Addr.add_mid]
   .cases q3:Nat.beq m a with
    |true=>obtain rfl:=beq_eq q3;simp[bc]
    |false=>
     have:¬m=a:=λe0=>by subst e0;rw[Nat.beq_refl]at q3;cases q3
     simp[bc,this]
  .cases e
 .cases e
end
end
section
section
variable {P:Program} {sl:FuncId->Sl} {θ:Th} {h h':AH} {n n':Nat} {w:World} {s:Sl} {L:List Tmp} {t:Tr AV} {l:List AV} {ac:Act} {o:Oper} {f:FT} {v:AV}
theorem xZ(off:Nat):∀(us:List Value)(k:Nat)(cs:Array Value),off+k+us.length<=cs.size->
 ((us.zipIdx k).foldl (λ(cs:Array Value)(c,j)=>cs.setIfInBounds (off+j) c) cs).toList=cs.toList.take (off+k)++(us++cs.toList.drop (off+k+us.length))
 |[],k,cs,_=>by simp
 |u::us,k,cs,hle=>by
  simp only[List.length_cons]at hle;rw[List.zipIdx_cons,List.foldl_cons,xZ off us (k+1) (cs.setIfInBounds (off+k) u) (by simp;omega),Array.toList_setIfInBounds];have ho':off+k<cs.toList.length:=by rw[Array.length_toList];omega
  have hlen:(cs.toList.take (off+k)).length=off+k:=by rw[List.length_take];omega
  have e1:(cs.toList.set (off+k) u).take (off+(k+1))=cs.toList.take (off+k)++[u]:=by
   rw[<-Nat.add_assoc,List.take_set,List.take_succ_eq_append_getElem ho',List.set_append_right _ _ (by omega),hlen,Nat.sub_self];rfl
  have e2:(cs.toList.set (off+k) u).drop (off+(k+1)+us.length)=cs.toList.drop (off+k+(us.length+1)):=by
   rw[List.drop_set_of_lt (by omega),show off+(k+1)+us.length=off+k+(us.length+1) by omega]
  rw[e1,e2];simp
theorem Bu{pl:Nat->Option (Nat×Nat)}(hT:RT s θ t ac.tmps)(hL:LR s θ L l ac.tmps):∀{ps:List (Nat×Operand)}{c c':List AV}{cs:Array Value},(EC s L pl ps).run t l c=some c'->eU θ c cs.toList->(∀x∈cs.toList,x.oneCell'=true)->
 ∃cs',Instr.fill pl cs (ps.map λ(i,x)=>(i,ac.eval x))=some cs'/\eU θ c' cs'.toList/\(∀x∈cs'.toList,x.oneCell'=true)/\cs'.size=cs.size
 |[],c,c',cs,e,hc,h1=>by cases e;exact⟨cs,rfl,hc,h1,rfl⟩
 |(k,x)::ps,c,c',cs,e,hc,h1=>by
  unfold EC at e;split at e
  .cases e
  rename_i o0 w0 hp;obtain⟨a,g1,g2⟩:=aB (show bnd ((co s L x).run t l) _=some c' from e);obtain⟨u,g3,g4⟩:=aB g2;obtain⟨g5,g6⟩:=bI g4;obtain⟨d,g7,g8⟩:=aB g6;obtain⟨hu,hone⟩:=Bg g3 (bF g1 hT hL);have hw:=beq_eq g5;rw[eF]at hw;have Bh:=hu.length;rw[Array.length_toList]at Bh;have hcl:=hc.length;rw[Array.length_toList]at hcl;obtain⟨g9,rfl⟩:=lT g7;let X:=(ac.eval x).cells;have hfit:o0+0+X.toList.length<=cs.size:=by rw[Array.length_toList];show o0+0+(ac.eval x).cells.size<=_;omega
  have hov:=xZ o0 X.toList 0 cs hfit;generalize hY:(X.toList.zipIdx 0).foldl (λ(cs:Array Value)(c,j)=>cs.setIfInBounds (o0+j) c) cs=Y at hov;have hYv:eU θ (c.take o0++(u++c.drop (o0+u.length))) Y.toList:=by
   have h6:X.toList.length=u.length:=by rw[Array.length_toList];exact Bh
   rw[hov,Nat.add_zero,h6];exact(hc.take o0).append (hu.append (hc.drop _))
  have hY1:∀y∈Y.toList,y.oneCell'=true:=by
   intro y hy;rw[hov]at hy;rcases List.mem_append.1 hy with hy|hy
   .exact h1 y (List.mem_of_mem_take hy)
   .rcases List.mem_append.1 hy with hy|hy
    .exact hone y hy
    .exact h1 y (List.mem_of_mem_drop hy)
  have hYs:Y.size=cs.size:=by
   have h5:cs.toList.length=cs.size:=Array.length_toList;rw[<-Array.length_toList,hov,List.length_append,List.length_append,List.length_take,List.length_drop];omega
  obtain⟨cs',q1,q2,q3,q4⟩:=Bu hT hL g8 hYv hY1;refine⟨cs',?_,q2,q3,by omega⟩;rw[List.map_cons];unfold Instr.fill;simp only[hp];have hY':Array.foldl (λ(cs:Array Value)(x:Value×Nat)=>match x with|(c,j)=>cs.setIfInBounds (o0+j) c) cs (ac.eval x).cells.zipIdx=Y:=by
   rw[<-hY,<-Array.foldl_toList,Array.toList_zipIdx]
  rw[if_neg (by simp;omega)];exact(congrArg (λz=>Instr.fill pl z _) hY').trans q1
theorem I9{ty:TypeId}{ps:Array (Nat×Operand)}(ho:o.op= .build ty ps)(e:(xS P s L ty ps.toList).run f t l h n= .ok v h' n')(hT:RT s θ t ac.tmps)(hL:LR s θ L l ac.tmps)(H:RH P sl θ h n w):gM P sl θ h n w ((execOp ac.eval o).run P w) v h' n':=by
 unfold xS at e;split at e
 .cases e
 rename_i pl hpl;obtain⟨z,g1,g2⟩:=aS (show aJ (kI P ty) _= .ok v h' n' from e);obtain⟨c,g3,g4⟩:=aS g2;cases g4
 obtain⟨i,zv,hi,hz,hv,hone⟩:=jP (θ:=θ) g1;obtain⟨cs',q1,q2,q3,q4⟩:=Bu hT hL g3 hv hone;have hb:P.built ty (ps.map λ(i,x)=>(i,ac.eval x)).toList=some cs':=by
  rw[Array.toList_map];unfold AY at hpl;unfold Program.built;rw[hi];split at hpl
  .rename_i ln el hu
   rw[hu];cases hie:P.info? el with
   |none=>rw[hie]at hpl;cases hpl
   |some ie=>
    rw[hie]at hpl;cases hpl;simp only[hz,hie];exact q1
  .rename_i fs hu
   rw[hu];cases hm:fs.toList.mapM (λf=>(P.info? f.type).map λi=>(f.offset,i.size))with
   |none=>rw[hm]at hpl;cases hpl
   |some pls=>
    rw[hm]at hpl;cases hpl;simp only[hz,hm];have:(λk:Nat=>pls.toArray[k]?)=(λk:Nat=>pls[k]?):=by funext k;simp
    rw[this];exact q1
  .cases hpl
 refine .same H (u:=.agg cs') ?_ ⟨cs'.toList,q2,q3,by simp⟩;simp[execOp,ho,run_build w ty _ cs' hb]
def zT(c:Nat)(l:List Value):List Value:=@Nat.rec (λ_=>List Value) [] (λ_ r=>l++r) c
theorem wD(l:List Value):∀c,(zT c l).length=c*l.length
 |0=>by show([]:List Value).length=_;simp
 |c+1=>by show(l++zT c l).length=_;rw[List.length_append,wD l c,Nat.succ_mul];omega
theorem Dm(l:List Value):∀(c j:Nat),j<c*l.length->(zT c l)[j]?=l[j % l.length]?
 |0,j,h=>by simp at h
 |c+1,j,h=>by
  show(l++zT c l)[j]?=_;rcases Nat.lt_or_ge j l.length with h1|h1
  .rw[List.getElem?_append_left h1,Nat.mod_eq_of_lt h1]
  .rw[Nat.succ_mul]at h
   rw[List.getElem?_append_right h1,Dm l c _ (by omega),Nat.mod_eq_sub_mod h1]
theorem ET{z:List AV}{zs:List Value}(hz:eU θ z zs):∀c,eU θ (rep c z) (zT c zs)
 |0=>rfl
 |c+1=>by show eU θ (CK z (rep c z)) (zs++zT c zs);rw[iK];exact hz.append (ET hz c)
theorem He(z:Array Value)(c:Nat):((Array.range (c*z.size)).map (z[· % z.size]!)).toList=zT c z.toList:=by
 apply List.ext_getElem?;intro j;rcases Nat.lt_or_ge j (c*z.size)with h1|h1
 .have hz:0<z.size:=by
   rcases Nat.eq_zero_or_pos z.size with e|e
   .rw[e]at h1;simp at h1
   .exact e
  have hm:=Nat.mod_lt j hz;rw[Dm _ _ _ (by rw[Array.length_toList];exact h1),Array.length_toList,Array.getElem?_toList,Array.getElem?_toList,Array.getElem?_map,Array.getElem?_range,if_pos h1,Array.getElem?_eq_getElem hm];simp[hm]
 .rw[List.getElem?_eq_none (by simp;exact h1),List.getElem?_eq_none (by rw[wD,Array.length_toList];exact h1)]
theorem yc{l:List Value}(h1:∀x∈l,x.oneCell'=true):∀(c:Nat),∀x∈zT c l,x.oneCell'=true
 |0,x,h=>by cases h
 |c+1,x,h=>by
  rcases List.mem_append.1 (show x∈l++zT c l from h)with h|h
  .exact h1 x h
  .exact yc h1 c x h
theorem oN{ty:TypeId}{len:Nat}{ps:Array (Nat×Operand)}(ho:o.op= .buildSlice ty len ps)(e:(kJ P s L ty len ps.toList).run f t l h n= .ok v h' n')(hT:RT s θ t ac.tmps)(hL:LR s θ L l ac.tmps):gM P sl θ h n w ((execOp ac.eval o).run P w) v h' n':=by
 unfold kJ at e;split at e
 case h_2=>cases e
 rename_i el hu;obtain⟨z,g1,g2⟩:=aS (show aJ (kI P el) _= .ok v h' n' from e);obtain⟨w0,g3,g4⟩:=aS g2;obtain⟨g5,g6⟩:=iN g4;obtain⟨g7,g8⟩:=iN g6;obtain⟨c,g9,g10⟩:=aS g8;obtain⟨i,hi,rfl⟩:=iL g3;obtain⟨i',zv,hi',hz,hv,hone⟩:=jP (θ:=θ) g1;rw[hi]at hi';cases hi';have hzs:zv.cells.size=i.size:=by
  have:=beq_eq g5;rw[eF]at this;have h5:=hv.length;rw[Array.length_toList]at h5;omega
 have hle:len*i.size<=1048576:=Nat.le_of_ble_eq_true g7;have hm:=He zv.cells len;obtain⟨cs',q1,q2,q3,q4⟩:=Bu (cs:=(Array.range (len*zv.cells.size)).map (zv.cells[· % zv.cells.size]!)) hT hL g9 (by rw[hm];exact ET hv len) (by rw[hm];exact yc hone len);have hsz:cs'.size=len*P.cellsOf el:=by rw[q4,show P.cellsOf el=i.size from qh hi];simp[hzs]
 refine .alloc g10 len (rO.whole hsz q2 q3) (x:=.slice (some ⟨w.heap.size,0,none⟩) len len) ?_ ⟨w.heap.size,len,Th.cZ _ _ _,(λh=>by cases h),rfl⟩;have q1':Instr.fill (λk=>some (k*i.size,i.size)) ((Array.range (len*i.size)).map (zv.cells[· % zv.cells.size]!)) ((ps.map λ(i,x)=>(i,ac.eval x)).toList)=some cs':=by
  rw[Array.toList_map,<-hzs];rw[hzs];rw[hzs]at q1;exact q1
 have hbig:¬(2 ^ 24<len*i.size):=by omega
 by_cases h0:len*i.size=0
 .have hr:(Array.range (len*i.size)).map (zv.cells[· % zv.cells.size]!)=#[]:=by rw[h0];simp
  rw[hr]at q1';have hr2:∀(zz:Array Value),(Array.range (len*i.size)).map (zz[· % zz.size]!)=#[]:=λzz=>by rw[h0];simp
  have Tm:=q1';rw[<-hr2 #[]]at Tm;simp only[execOp,ho,Instr.buildSlice,Sem.run_bind,run_underlying hu,Result.andThen_ok,sizeOf,typeInfo,run_program,hi,Sem.run_pure];rw[if_neg hbig];simp only[h0,if_true,Sem.run_bind,Sem.run_pure,Result.andThen_ok];rw[h0]at Tm;rw[Tm];simp[newRow]
 .simp only[execOp,ho,Instr.buildSlice,Sem.run_bind,run_underlying hu,Result.andThen_ok,sizeOf,typeInfo,run_program,hi,Sem.run_pure]
  rw[if_neg hbig];simp only[h0,if_false,Sem.run_bind,Sem.run_pure,Result.andThen_ok,zeroValue,typeInfo,run_program,hi,hz];rw[q1'];simp[newRow]
theorem qV{ty:TypeId}{x y:Operand}(ho:o.op= .makeSlice ty x y)(e:(mR P s L ty x y).run f t l h n= .ok v h' n')(hT:RT s θ t ac.tmps)(hL:LR s θ L l ac.tmps):gM P sl θ h n w ((execOp ac.eval o).run P w) v h' n':=by
 unfold mR at e;split at e
 case h_2=>cases e
 rename_i el i z hu hi0 hz0;rw[Di hu]at hi0 hz0;cases g1:Nat.beq (mM z) i.size with
 |false=>rw[g1]at e;cases e
 |true=>
 rw[g1,bD]at e;cases g2:Nat.ble i.bytes 65536 with
 |false=>rw[g2]at e;cases e
 |true=>
 rw[g2,bD]at e;simp only at e;split at e
 case h_2=>cases e
 rename_i k1 a k2 c h0 h1;have hp:ac.eval x= .int k1 (a:Int):=bF h0 hT hL;have hq:ac.eval y= .int k2 (c:Int):=bF h1 hT hL;obtain⟨g3,e⟩:=iN e;obtain⟨g4,e⟩:=iN e;have hac:a<=c:=Nat.le_of_ble_eq_true g3;have hc:c<=1048576:=Nat.le_of_ble_eq_true g4;obtain⟨i',zv,hi',hz,hv,hone⟩:=jP (θ:=θ) hz0;rw[hi0]at hi';cases hi';have hzs:zv.cells.size=i.size:=by
  have:=beq_eq g1;rw[eF]at this;have h5:=hv.length;rw[Array.length_toList]at h5;omega
 have hb:i.bytes<=65536:=Nat.le_of_ble_eq_true g2;have hbc:i.bytes*c<=281474976710656:=Nat.le_trans (Nat.mul_le_mul hb hc) (by decide);have hrun:=run_make w ty el i zv hu hi0 hz k1 k2 (a:Int) (c:Int) (by omega) (by omega) (by rw[<-Int.natCast_mul];omega) (by omega);have hm:(madeCells zv.cells (c*i.size)).toList=zT c zv.cells.toList:=by rw[<-hzs];exact He zv.cells c
 refine .alloc e c (rO.whole (cs:=madeCells zv.cells (c*i.size)) (by rw[size_madeCells,show P.cellsOf el=i.size from qh hi0]) (by rw[hm];exact ET hv c) (by rw[hm];exact yc hone c)) (x:=.slice (some ⟨w.heap.size,0,none⟩) a c) ?_ ⟨w.heap.size,c,Th.cZ _ _ _,(λh=>by cases h),rfl⟩;simp only[Int.toNat_natCast]at hrun;simp[execOp,ho,hp,hq,hrun]
end
end
section
section
variable {P:Program} {sl:FuncId->Sl} {θ:Th} {h h':AH} {n n':Nat} {w:World} {s:Sl} {L:List Tmp} {t:Tr AV} {l:List AV} {ac:Act} {o:Oper} {f:FT} {v:AV}
theorem Bv{D:Nat}{em:Bool}{q:TypeId->Rp}(hq:∀ty x U,(q ty).run x=true->aV θ x U->(Instr.checkKey em D ty U).run P w= .ok () w)
 {a:List AV}{xs:List Value}(ha:eU θ a xs)(h1:∀x∈xs,x.oneCell'=true):∀(fs:List Field),(EG P q fs).run (.agg a)=true->
 (forIn fs () λf _=>(if f.name≠ "_" then do
  let u <-part f.type xs.toArray f.offset
  Instr.checkKey em D f.type u
  pure (ForInStep.yield ())
  else pure (ForInStep.yield ()):Sem (ForInStep Unit))).run P w= .ok () w
 |[],_=>rfl
 |d::fs,e=>by
  rw[List.forIn_cons,Sem.run_bind];cases hn:(d.name== "_")with
  |true=>
   have hn':d.name= "_":=by simpa using hn
   have e':(EG P q fs).run (.agg a)=true:=by
    have:(bc (d.name== "_") (EG P q fs) _:Rp).run (.agg a)=true:=e
    rwa [hn,bD]at this
   rw[if_neg (by simp[hn'])];exact Bv hq ha h1 fs e'
  |false=>
   have hn':d.name≠ "_":=by simpa using hn
   have e0:(bc (d.name== "_") (EG P q fs) _:Rp).run (.agg a)=true:=e;rw[hn,fU]at e0;cases g1:(KF P d.type).run a d.offset with
   |none=>simp only at e0;rw[g1]at e0;cases e0
   |some u=>
    simp only at e0;rw[g1]at e0;cases g2:(q d.type).run u with
    |false=>simp only at e0;rw[g2]at e0;cases e0
    |true=>
     simp only at e0;rw[g2,bD]at e0;obtain⟨U,k1,k2⟩:=tF (P:=P) (w:=w) g1 ha h1;rw[if_pos hn',Sem.run_bind,k1,Result.andThen_ok,Sem.run_bind,hq _ _ _ g2 k2,Result.andThen_ok];exact Bv hq ha h1 fs e0
theorem EU(w:World)(em:Bool):∀(d:Nat)(ty:TypeId)(x:AV)(U:Value),(xQ P d ty).run x=true->aV θ x U->∀D,d<=D->(Instr.checkKey em D ty U).run P w= .ok () w
 |0,_,_,_,h,_,_,_=>by cases h
 |d+1,ty,x,U,h,hx,0,hD=>by omega
 |d+1,ty,x,U,h,hx,D+1,hD=>by
  unfold xQ at h;split at h
  .rename_i hu
   simp only[Instr.checkKey,Sem.run_bind,run_underlying hu,Result.andThen_ok];rfl
  .rename_i k hu
   simp only[Instr.checkKey,Sem.run_bind,run_underlying hu,Result.andThen_ok];rfl
  .rename_i hu
   simp only[Instr.checkKey,Sem.run_bind,run_underlying hu,Result.andThen_ok];rfl
  .rename_i fs hu
   simp only at h;split at h
   .obtain⟨xs,h1,h2,rfl⟩:=hx
    have k:=Bv (P:=P) (w:=w) (D:=D) (em:=em) (λty x U g1 g2=>EU w em d ty x U g1 g2 D (by omega)) h1 h2 fs.toList h;simp only[Instr.checkKey,Sem.run_bind,run_underlying hu,Result.andThen_ok];rw[<-Array.forIn_toList];rw[k];rfl
   .cases h
  .cases h
def W9(θ:Th)(q:KW)(k:AV)(i:Nat)(l0:List MapEntry):Option (Nat×AV)->Option (Nat×Value)->Prop
 |none,R=>R=none
 |some (j,a),R=>∃V,R=some (j,V)/\aV θ a V/\i<=j/\∃m,l0[j - i]?=some m/\∃b,q.run k b=some true/\aV θ b m.key
theorem find_ok{q:KW}{k:AV}{K:Value}{kt:TypeId}{kd:TypeDesc}(hq:∀a A e,q.run k a=some e->aV θ a A->(Op.equal kt K A).run P w= .ok e w)
 (hs:∀a A e b,q.run k a=some e->aV θ a A->Instr.sameNow kd K A=some b->b=e):∀{es:List (AV×AV×Nat)}{l0:List MapEntry}{i:Nat}{r:Option (Nat×AV)},nP q k es i=some r->Es θ es l0->
 ∃R,W9 θ q k i l0 r R/\(Instr.findAsking kt K l0 i).run P w= .ok R w/\∀R',Instr.findNow kd K l0 i=some R'->R'=R
 |[],_,i,r,e,hv=>by
  rw[Es]at hv;subst hv;cases e;exact⟨none,rfl,rfl,λR' h=>by cases h;rfl⟩
 |(a,b,c)::es,_,i,r,e,hv=>by
  obtain⟨m,ms,h1,h2,h3,h4,rfl⟩:=hv;obtain⟨b0,g1,g2⟩:=aB (show bnd (q.run k a) _=some r from e);have k1:=hq _ _ _ g1 h1;cases b0 with
  |true=>
   cases g2
   refine⟨some (i,m.val),⟨m.val,rfl,h2,Nat.le_refl _,m,by simp,a,g1,h1⟩,?_,λR' hR=>?_⟩
   .simp only[Instr.findAsking,Sem.run_bind,k1,Result.andThen_ok,if_true];rfl
   .unfold Instr.findNow at hR
    split at hR
    .cases hR;rfl
    .rename_i h5;cases hs _ _ _ _ g1 h1 h5
    .cases hR
  |false=>
   obtain⟨R,q1,q2,q3⟩:=find_ok hq hs (show nP q k es (i+1)=some r from g2) h4;refine⟨R,?_,?_,λR' hR=>?_⟩
   .cases r with
    |none=>exact q1
    |some p=>obtain⟨V,e1,e2,e3,m',e4,e5⟩:=q1;exact⟨V,e1,e2,by omega,m',by rw[show p.1 - i=(p.1 - (i+1))+1 by omega];exact e4,e5⟩
   .simp only[Instr.findAsking,Sem.run_bind,k1,Result.andThen_ok,Bool.false_eq_true,if_false];exact q2
   .unfold Instr.findNow at hR
    split at hR
    .rename_i h5;cases hs _ _ _ _ g1 h1 h5
    .exact q3 R' hR
    .cases hR
theorem O6{kt:TypeId}{kd:TypeDesc}(hu:P.underlying kt=some kd){d:Nat}{k a:AV}{K A:Value}{e b:Bool}(h1:(qQ P d kt).run k a=some e)(hk:aV θ k K)(ha:aV θ a A)(hb:Instr.sameNow kd K A=some b):b=e:=by
 have h2:=Bq (P:=P) default d kt k a e K A h1 hk ha (d+1) (by omega);unfold Instr.sameNow at hb;split at hb
 .split at hb
  .cases hb
   rename_i hkk;subst hkk;simp only[Op.equalIn,Sem.run_bind,run_underlying hu,Result.andThen_ok,if_true,Sem.run_pure,Result.ok.injEq]at h2;exact h2.1
  .cases hb
 .cases hb
  simp only[Op.equalIn,Sem.run_bind,run_underlying hu,Result.andThen_ok,Sem.run_pure,Result.ok.injEq]at h2;exact h2.1
 .cases hb
  simp only[Op.equalIn,Sem.run_bind,run_underlying hu,Result.andThen_ok,Sem.run_pure,Result.ok.injEq]at h2;exact h2.1
 .cases hb
theorem rR{kt:TypeId}{kd:TypeDesc}(hu:P.underlying kt=some kd){k:AV}{K:Value}{es:List (AV×AV×Nat)}{l0:List MapEntry}{r:Option (Nat×AV)}(e:nP (qQ P 30 kt) k es 0=some r)(hk:aV θ k K)(hv:Es θ es l0):
 ∃R,W9 θ (qQ P 30 kt) k 0 l0 r R/\(Instr.findKey kt K l0).run P w= .ok R w:=by
 obtain⟨R,q1,q2,q3⟩:=find_ok (P:=P) (w:=w) (kt:=kt) (kd:=kd) (λa A e g1 g2=>Bq (P:=P) w 30 kt k a e K A g1 hk g2 Op.maxDepth (by decide)) (λa A e b g1 g2 g3=>O6 hu g1 hk g2 g3) e hv;refine⟨R,q1,?_⟩;unfold Instr.findKey;rw[Sem.run_bind,run_underlying hu,Result.andThen_ok];cases hf:Instr.findNow kd K l0 0 with
 |none=>exact q2
 |some R'=>rw[q3 R' hf];rfl
theorem Hf{k v:AV}{K V:Value}(hk:aV θ k K)(hv:aV θ v V):∀{es:List (AV×AV×Nat)}{l0:List MapEntry}(i:Nat),Es θ es l0->i<es.length->Es θ (ED k v i es) (l0.modify i λe=>{e with key:=K,val:=V})
 |[],_,_,_,h=>by simp at h
 |(a,b,c)::es,_,0,e,_=>by
  obtain⟨m,ms,h1,h2,h3,h4,rfl⟩:=e;exact⟨{m with key:=K,val:=V},ms,hk,hv,h3,h4,rfl⟩
 |(a,b,c)::es,_,i+1,e,h=>by
  obtain⟨m,ms,h1,h2,h3,h4,rfl⟩:=e;exact⟨m,_,h1,h2,h3,Hf hk hv i h4 (by simpa using h),by simp⟩
theorem Es.append:∀{es es':List (AV×AV×Nat)}{l0 l1:List MapEntry},Es θ es l0->Es θ es' l1->Es θ (es++es') (l0++l1)
 |[],_,_,_,e,h=>by rw[Es]at e;subst e;exact h
 |(a,b,c)::es,_,_,_,e,h=>by obtain⟨m,ms,h1,h2,h3,h4,rfl⟩:=e;exact⟨m,_,h1,h2,h3,Es.append h4 h,rfl⟩
theorem EW{ty:TypeId}{x k:Operand}{ok:Bool}(ho:o.op= .lookup ty x k ok)(e:(sV P s L ty x k ok).run f t l h n= .ok v h' n')(hT:RT s θ t ac.tmps)(hL:LR s θ L l ac.tmps)(H:RH P sl θ h n w):gM P sl θ h n w ((execOp ac.eval o).run P w) v h' n':=by
 unfold sV at e;split at e
 case h_2=>cases e
 rename_i kt el hu;obtain⟨xa,g1,g2⟩:=aS (show aJ ((co s L x).run t l) _= .ok v h' n' from e);obtain⟨ka,g3,g4⟩:=aS g2;obtain⟨g5,rfl,rfl⟩:=gT g4;obtain⟨g6,g7⟩:=bI g5;obtain⟨r,g8,g9⟩:=aB g7;have hx:=bF g1 hT hL;have hk:=bF g3 hT hL;have hck:=λem=>EU (P:=P) w em 30 kt ka _ g6 hk 10000 (by omega);obtain⟨kd,hkd⟩:∃kd,P.underlying kt=some kd:=by
  cases hkd:P.underlying kt with
  |none=>
   have:(xQ P 30 kt).run ka=false:=by show(xQ P (29+1) kt).run ka=false;unfold xQ;rw[hkd]
   rw[this]at g6;cases g6
  |some kd=>exact⟨kd,rfl⟩
 split at g8
 .rename_i b
  obtain⟨es,q1,q2⟩:=aB g8;obtain⟨oK,q3⟩:=Af q1;obtain⟨r',q,hr,hp⟩:=hx;obtain⟨r2,c2,obj,e1,e2,en,rfl,e3⟩:=H.at_ _ _ q3;rw[hr]at e1;cases e1;obtain⟨R,f1,f2⟩:=rR (P:=P) (w:=w) hkd q2 hk e3;cases r with
  |none=>
   cases f1
   obtain⟨z,z1,z2⟩:=aB (show bnd (zeroV P el) _=some v from g9);obtain⟨i,zv,i1,i2,i3⟩:=rQ (θ:=θ) z1;cases ok with
   |false=>
    cases z2
    refine .same H ?_ i3;simp[execOp,ho,hp,Instr.lookup,run_underlying hu,getObj,Sem.run,e2,hck,f2,zeroValue,typeInfo,i1,i2]
   |true=>
    cases z2
    refine .same H (u:=.tuple #[zv,.bool false]) ?_ ⟨_,⟨_,_,i3,⟨_,_,rfl,rfl,rfl⟩,rfl⟩,rfl⟩;simp[execOp,ho,hp,Instr.lookup,run_underlying hu,getObj,Sem.run,e2,hck,f2,zeroValue,typeInfo,i1,i2]
  |some pr=>
   obtain⟨j,va⟩:=pr;obtain⟨V,rfl,f3,_,_⟩:=f1;cases ok with
   |false=>
    cases g9
    refine .same H ?_ f3;simp[execOp,ho,hp,Instr.lookup,run_underlying hu,getObj,Sem.run,e2,hck,f2]
   |true=>
    cases g9
    refine .same H (u:=.tuple #[V,.bool true]) ?_ ⟨_,⟨_,_,f3,⟨_,_,rfl,rfl,rfl⟩,rfl⟩,rfl⟩;simp[execOp,ho,hp,Instr.lookup,run_underlying hu,getObj,Sem.run,e2,hck,f2]
 .cases g8
  have hp:ac.eval x= .map none:=hx;obtain⟨R,f1,f2⟩:=rR (P:=P) (w:=w) (θ:=θ) (es:=[]) (l0:=[]) (r:=none) hkd rfl hk rfl;cases f1
  obtain⟨z,z1,z2⟩:=aB (show bnd (zeroV P el) _=some v from g9);obtain⟨i,zv,i1,i2,i3⟩:=rQ (θ:=θ) z1;cases ok with
  |false=>
   cases z2
   refine .same H ?_ i3;simp[execOp,ho,hp,Instr.lookup,run_underlying hu,hck,f2,zeroValue,typeInfo,i1,i2]
  |true=>
   cases z2
   refine .same H (u:=.tuple #[zv,.bool false]) ?_ ⟨_,⟨_,_,i3,⟨_,_,rfl,rfl,rfl⟩,rfl⟩,rfl⟩;simp[execOp,ho,hp,Instr.lookup,run_underlying hu,hck,f2,zeroValue,typeInfo,i1,i2]
 .cases g8
theorem I_{k:AV}{K:Value}(hs:KX k=true)(hk:aV θ k K){kt:TypeId}{a:AV}{A:Value}{d:Nat}(e:(qQ P d kt).run k a=some true)(ha:aV θ a A):Instr.sameBits 10000 A K=true:=by
 cases d with
 |zero=>cases e
 |succ d=>
  unfold qQ at e;cases k<;>try(cases hs;done)
  all_goals(cases hk;split at e<;>try(cases e;done))
  all_goals first
   |(cases hz:P.stoodInHeld kt<;>(rw[hz]at e;exact absurd e (λh=>by cases h)))
   |skip
  .cases a<;>try(cases e;done)
   rename_i x _ _ y;cases ha;cases x<;>cases y<;>first|(cases e;done)|rfl
  .cases a<;>try(cases e;done)
   cases ha
   obtain⟨q1,q2⟩:=bI e;cases Bo q1
   have q3:=Option.some.inj q2;rw[cK]at q3;simp[Instr.sameBits,of_decide_eq_true q3]
  .cases a<;>try(cases e;done)
   rename_i x _ _ y;cases ha
   have q3:qJ x y=true:=Option.some.inj e;rw[iV]at q3;have q4:x=y:=by simpa using q3
   subst q4;show((⟨x.toArray⟩:ByteArray)==⟨x.toArray⟩)=true;show(x.toArray==x.toArray)=true;simp
theorem yg{r:Nat}{en en':Array MapEntry}{c c':Nat}(e:w.heap[r]?=some (.map en c)):(setObj r (.map en' c')).run P w= .ok () {w with heap:=w.heap.setIfInBounds r (.map en' c')}:=by
 simp[setObj,Sem.run,e]
theorem RH.map(H:RH P sl θ h n w){b r d:Nat}{es es':List (AV×AV×Nat)}{c c':Nat}{en en':Array MapEntry}(e:h.get b=some (.mp es c))(hr:θ b=some (r,d))(ew:w.heap[r]?=some (.map en c))(h':Es θ es' en'.toList):
 RH P sl θ (h.set b (.mp es' c')) n {w with heap:=w.heap.setIfInBounds r (.map en' c')}/\Fr θ h w θ (h.set b (.mp es' c')) {w with heap:=w.heap.setIfInBounds r (.map en' c')}:=by
 have hb:r<w.heap.size:=by
  rcases Nat.lt_or_ge r w.heap.size with h1|h1
  .exact h1
  .rw[Array.getElem?_eq_none h1]at ew;cases ew
 refine H.turn e hr (o':=.mp es' c') (zP:=.map en' c') ⟨en',rfl,h'⟩ rfl rfl rfl (by simp) (λk=>?_) (λ_ _ ⟨_,q,_⟩=>by cases q);show(w.heap.setIfInBounds r _)[k]?=_;rw[Array.getElem?_setIfInBounds];by_cases hk:k=r
 .subst hk;simp[hb]
 .rw[if_neg (λe=>hk e.symm),if_neg hk]
theorem qW{ty:TypeId}{m k x:Operand}(ho:o.op= .mapUpdate ty m k x\/o.op= .insert ty m k x)(e:(jL P s L ty m k x).run f t l h n= .ok v h' n')(hT:RT s θ t ac.tmps)(hL:LR s θ L l ac.tmps)(H:RH P sl θ h n w):KG P sl θ h w ((execOp ac.eval o).run P w) v h' n':=by
 unfold jL at e;split at e
 case h_2=>cases e
 rename_i kt el hu;obtain⟨ma,g1,g2⟩:=aS (show aJ ((co s L m).run t l) _= .ok v h' n' from e);obtain⟨ka,g3,g4⟩:=aS g2;obtain⟨xa,g5,g6⟩:=aS g4;have hm:=bF g1 hT hL;have hk:=bF g3 hT hL;have hx:=bF g5 hT hL;unfold CV at g6;split at g6
 case h_2=>cases g6
 rename_i b;split at g6
 case h_2=>cases g6
 rename_i es oK q3;obtain⟨g7,g8⟩:=iN g6;obtain⟨r,g9,g10⟩:=aS g8;have hck:=λem=>EU (P:=P) w em 30 kt ka _ g7 hk 10000 (by omega);obtain⟨kd,hkd⟩:∃kd,P.underlying kt=some kd:=by
  cases hkd:P.underlying kt with
  |none=>
   have:(xQ P 30 kt).run ka=false:=by show(xQ P (29+1) kt).run ka=false;unfold xQ;rw[hkd]
   rw[this]at g7;cases g7
  |some kd=>exact⟨kd,rfl⟩
 obtain⟨r',q,hr,hp⟩:=hm;obtain⟨r2,c2,obj,e1,e2,en,rfl,e3⟩:=H.at_ _ _ q3;rw[hr]at e1;cases e1;obtain⟨R,f1,f2⟩:=rR (P:=P) (w:=w) hkd g9 hk e3;have hrun:(execOp ac.eval o).run P w=((Instr.mapUpdate ty (ac.eval m) (ac.eval k) (ac.eval x)).run P w).andThen λ_ w=>.ok .skip w:=by
  rcases ho with ho|ho<;>simp[execOp,ho]
 cases r with
 |none=>
  cases f1;cases g10
  have hEs:Es θ (es++[(ka,xa,oK)]) (en.push {key:=ac.eval k,val:=ac.eval x,born:=oK}).toList:=by
   rw[Array.toList_push];exact Es.append e3 ⟨_,_,hk,hx,rfl,rfl,rfl⟩
  obtain⟨k1,k2⟩:=H.map (c':=oK+1) q3 hr e2 hEs;rw[iK];refine⟨θ,undef,_,.inr ⟨?_,rfl⟩,⟨[],rfl,rfl⟩,k1,k2⟩;rw[hrun,hp];simp[Instr.mapUpdate,run_underlying hu,getObj,Sem.run,e2,hck,f2,yg e2]
 |some pr=>
  obtain⟨j,va⟩:=pr;obtain⟨V,rfl,f3,_,m0,hj0,b0,hb1,hb2⟩:=f1;obtain⟨g11,g12⟩:=iN g10;cases g12
  rw[Nat.sub_zero]at hj0;have hj:j<es.length:=by rw[<-Es.length e3];exact(List.getElem?_eq_some_iff.1 hj0).1
  have hEs:Es θ (ED ka xa j es) (en.modify j λe=>{e with key:=ac.eval k,val:=ac.eval x}).toList:=by
   rw[Array.toList_modify];exact Hf hk hx j e3 hj
  obtain⟨k1,k2⟩:=H.map (c':=oK) q3 hr e2 hEs;refine⟨θ,undef,_,.inr ⟨?_,rfl⟩,⟨[],rfl,rfl⟩,k1,k2⟩;have hsame:Instr.sameBits 10000 (((en[j]?).map (·.key)).getD (ac.eval k)) (ac.eval k)=true:=by
   rw[<-Array.getElem?_toList,hj0];exact I_ g11 hk hb1 hb2
  rw[hrun,hp];simp[Instr.mapUpdate,run_underlying hu,getObj,Sem.run,e2,hck,f2,Instr.keyThatStays,hsame,yg e2]
end
end
section
section
variable {P:Program} {sl:FuncId->Sl} {θ:Th} {h h':AH} {n n':Nat} {w:World} {s:Sl} {L:List Tmp} {t:Tr AV} {l:List AV} {ac:Act} {o:Oper} {f:FT} {v:AV}
theorem Ja{ty:TypeId}{x:Operand}(ho:o.op= .range ty x)(e:(A9 P s L ty x).run f t l h n= .ok v h' n')(hT:RT s θ t ac.tmps)(hL:LR s θ L l ac.tmps)(H:RH P sl θ h n w):KG P sl θ h w ((execOp ac.eval o).run P w) v h' n':=by
 unfold A9 at e;split at e
 case h_2=>cases e
 rename_i kt el hu;have key:∀(mr:Option Nat)(m:Option Nat)(c:Nat),WM θ m mr->mk h n (.p n 0) (.it m c [] c)= .ok v h' n'->(execOp ac.eval o).run P w= .ok (.value (.pointer (some ⟨w.heap.size,0,none⟩))) (w.alloc (.mapIter mr c #[] c))->KG P sl θ h w ((execOp ac.eval o).run P w) v h' n':=by
  intro mr m c hm hk hr;exact gM.ok H (.alloc hk 0 ⟨mr,rfl,hm⟩ hr ⟨w.heap.size,0,Th.cZ _ _ _,rfl⟩)
 dsimp only at e;split at e
 .rename_i b hx
  split at e
  case h_2=>cases e
  rename_i es oK hg;obtain⟨r,d,hr,hp⟩:=bF hx hT hL;obtain⟨r2,c2,obj,e1,e2,en,rfl,e3⟩:=H.at_ _ _ hg;rw[hr]at e1;cases e1;refine key (some r) (some b) oK ⟨r,d,hr,rfl⟩ e ?_;simp[execOp,ho,Instr.range,hp,run_underlying hu,getObj,Sem.run,e2]
 .rename_i hx
  have hp:ac.eval x= .map none:=bF hx hT hL;refine key none none 0 rfl e ?_;simp[execOp,ho,Instr.range,hp,run_underlying hu]
 .cases e
theorem Es.nil{es:List MapEntry}(e:Es θ [] es):es=[]:=e
theorem Es.one{k v:AV}{c:Nat}{es:List MapEntry}(e:Es θ [(k,v,c)] es):∃x,es=[x]/\aV θ k x.key/\aV θ v x.val/\x.born=c:=by
 obtain⟨x,es',e1,e2,e3,e4,rfl⟩:=e;have:es'=[]:=e4;subst this;exact⟨x,rfl,e1,e2,e3⟩
theorem Le{x:Operand}(ho:o.op= .next x false)(e:(GZ s L x).run f t l h n= .ok v h' n')(hT:RT s θ t ac.tmps)(hL:LR s θ L l ac.tmps)(H:RH P sl θ h n w):KG P sl θ h w ((execOp ac.eval o).run P w) v h' n':=by
 unfold GZ at e;dsimp only at e;split at e
 case h_2=>cases e
 rename_i i hx;obtain⟨r,d,hr,hp⟩:=EO hx hT hL;have over:∀b,(execOp ac.eval o).run P w= .ok (.value (.tuple #[.bool b])) w->v= .bQ [.b b]->h'=h->n'=n->KG P sl θ h w ((execOp ac.eval o).run P w) v h' n':=by
  rintro b hr rfl rfl rfl;exact gM.ok H (.WV hr ⟨_,⟨_,_,rfl,rfl,rfl⟩,rfl⟩)
 unfold K5 at e;split at e
 .rename_i a1 a2 a3 hg
  cases e
  obtain⟨r2,c2,obj,e1,e2,mr,rfl,e3⟩:=H.at_ _ _ hg;rw[hr]at e1;cases e1;have e3:mr=none:=e3;subst e3;refine over false ?_ rfl rfl rfl;simp[execOp,ho,Instr.next,hp,getObj,Sem.run,e2]
 .rename_i b since KU hg
  obtain⟨r2,c2,obj,e1,e2,mr,rfl,rb,db,e3,rfl⟩:=H.at_ _ _ hg;rw[hr]at e1;cases e1;split at e
  .rename_i oK hb
   obtain⟨r3,c3,obj,e4,e5,en,rfl,e6⟩:=H.at_ _ _ hb;rw[e3]at e4;cases e4;cases e
   have:=Es.nil e6;refine over false ?_ rfl rfl rfl;obtain rfl:en=#[]:=Array.toList_inj.1 this;simp[execOp,ho,Instr.next,hp,getObj,Sem.run,e2,e5,choose,Question.forced]
  .rename_i k u c oK hb
   obtain⟨r3,c3,obj,e4,e5,en,rfl,e6⟩:=H.at_ _ _ hb;rw[e3]at e4;cases e4;obtain⟨h1,h2⟩:=iN e;cases h2
   obtain⟨x,h3,hk,hu,hc⟩:=Es.one e6;obtain rfl:en=#[x]:=Array.toList_inj.1 h3;subst hc;have hlt:x.born<since:=Nat.le_of_ble_eq_true h1;obtain⟨H2,F2⟩:=H.turn hg hr (o':=.it (some b) since [x.born] oK) (zP:=.mapIter (some rb) since #[x.born] oK) (c:=d) (w':=w.putObj r (.mapIter (some rb) since #[x.born] oK)) ⟨_,rfl,rb,db,e3,rfl⟩ rfl rfl rfl (by simp) (λk=>by
    by_cases hk:k=r
    .subst hk;rw[if_pos rfl];exact World.putObj_heap_same (bG e2)
    .rw[if_neg hk];exact World.putObj_heap_other hk) (λd' q hq=>by obtain⟨_,h,_⟩:=hq;cases h)
   refine⟨θ,_,_,.inl ?_,⟨_,⟨_,_,rfl,⟨_,_,hk,⟨_,_,hu,rfl,rfl⟩,rfl⟩,rfl⟩,rfl⟩,H2,F2⟩;have hnl:¬since<=x.born:=by omega
   simp[execOp,ho,Instr.next,hp,getObj,setObj,Sem.run,e2,e5,choose,Question.forced,hlt,hnl,World.putObj]
  .cases e
 .rename_i b since q KU hg
  obtain⟨r2,c2,obj,e1,e2,mr,rfl,rb,db,e3,rfl⟩:=H.at_ _ _ hg;rw[hr]at e1;cases e1;split at e
  .rename_i k u c oK hb
   obtain⟨r3,c3,obj,e4,e5,en,rfl,e6⟩:=H.at_ _ _ hb;rw[e3]at e4;cases e4;obtain⟨h1,h2⟩:=iN e;obtain⟨h3,h4⟩:=iN h2;cases h4
   have hcq:=beq_eq h1;subst hcq;obtain⟨x,h5,hk,hu,hc⟩:=Es.one e6;obtain rfl:en=#[x]:=Array.toList_inj.1 h5;subst hc;have hlt:x.born<KU:=Nat.le_of_ble_eq_true h3;have hnl:¬KU<=x.born:=by omega
   refine over false ?_ rfl rfl rfl;simp[execOp,ho,Instr.next,hp,getObj,Sem.run,e2,e5,choose,Question.forced,hnl]
  .cases e
 .cases e
theorem Jb{x:Operand}(ho:o.op= .entry x)(e:(A_ s L x).run f t l h n= .ok v h' n')(hT:RT s θ t ac.tmps)(hL:LR s θ L l ac.tmps)(H:RH P sl θ h n w):KG P sl θ h w ((execOp ac.eval o).run P w) v h' n':=by
 unfold A_ at e;dsimp only at e;split at e
 case h_2=>cases e
 rename_i i hx;obtain⟨r,d,hr,hp⟩:=EO hx hT hL;unfold EM at e;split at e
 case h_2=>cases e
 rename_i b since q KU hg;obtain⟨r2,c2,obj,e1,e2,mr,rfl,rb,db,e3,rfl⟩:=H.at_ _ _ hg;rw[hr]at e1;cases e1;split at e
 case h_2=>cases e
 rename_i k u c oK hb;obtain⟨r3,c3,obj,e4,e5,en,rfl,e6⟩:=H.at_ _ _ hb;rw[e3]at e4;cases e4;obtain⟨h1,h2⟩:=iN e;obtain⟨h3,h4⟩:=iN h2;cases h4
 have hcq:=beq_eq h3;have hcs:=beq_eq h1;subst hcq hcs;obtain⟨x',h5,hk,hu,hc⟩:=Es.one e6;obtain rfl:en=#[x']:=Array.toList_inj.1 h5;subst hc;refine gM.ok H (.WV (u:=.tuple #[x'.key,x'.val]) ?_ ⟨_,⟨_,_,hk,⟨_,_,hu,rfl,rfl⟩,rfl⟩,rfl⟩);simp[execOp,ho,Instr.entry,hp,getObj,Sem.run,e2,e5]
end
end
section
section
variable {P:Program} {sl:FuncId->Sl} {θ:Th} {h h':AH} {n n':Nat} {w:World} {s:Sl} {L:List Tmp} {t:Tr AV} {l:List AV} {ac:Act} {o:Oper} {f:FT} {v:AV} {Y:YT}
theorem Lf(e:(cop P s Y L o).run f t l h n= .ok v h' n')(hT:RT s θ t ac.tmps)(hL:LR s θ L l ac.tmps)(H:RH P sl θ h n w):
 gM P sl θ h n w ((execOp ac.eval o).run P w) v h' n'\/(dO o.op=3/\KG P sl θ h w ((execOp ac.eval o).run P w) v h' n')\/(∃g args ts,o.op= .call ⟨.value g,args,ts⟩/\(GV s Y L g args.toList).run f t l h n= .ok v h' n')\/∃x nm args ts,o.op= .call ⟨.invoke x nm,args,ts⟩/\(sW P s L x nm args.toList).run f t l h n= .ok v h' n':=by
 unfold cop at e;split at e
 .exact .inl (Db (.inl ‹_›) e hT hL H)
 .exact .inl (Db (.inr ‹_›) e hT hL H)
 .exact .inl (K_ ‹_› e hT hL H)
 .exact .inl (Ag ‹_› e)
 .exact .inl (G9 ‹_› e hT hL)
 .exact .inl (I9 ‹_› e hT hL H)
 .exact .inl (oN ‹_› e hT hL)
 .exact .inl (La ‹_› e hT hL H)
 .exact .inr (.inl ⟨by simp[dO, *],IY ‹_› e hT hL H⟩)
 .exact .inl (Bj ‹_› e hT hL H)
 .exact .inl (I5 ‹_› e hT hL H)
 .exact .inl (OV ‹_› e hT hL H)
 .exact .inl (OW ‹_› e hT hL H)
 .exact .inl (Dl ‹_› e hT hL H)
 .exact .inl (tu ‹_› e hT hL H)
 .exact .inl (Bl ‹_› rfl e hT hL H)
 .exact .inl (wC ‹_› e)
 .exact .inl (tC ‹_› e)
 .exact .inl (qV ‹_› e hT hL)
 .exact .inl (I8 ‹_› e hT hL H)
 .exact .inl (zQ ‹_› e hT hL H)
 .exact .inl (IZ ‹_› e hT hL H)
 .exact .inl (zR ‹_› e hT hL H)
 .exact .inl (I7 ‹_› e hT hL H)
 .exact .inl (EW ‹_› e hT hL H)
 .exact .inr (.inl ⟨by simp[dO, *],qW (.inl ‹_›) e hT hL H⟩)
 .exact .inr (.inl ⟨by simp[dO, *],qW (.inr ‹_›) e hT hL H⟩)
 .exact .inl (Dh ‹_› e hT hL H)
 .exact .inr (.inl ⟨by simp[dO, *],Ja ‹_› e hT hL H⟩)
 .exact .inr (.inl ⟨by simp[dO, *],Le ‹_› e hT hL H⟩)
 .exact .inr (.inl ⟨by simp[dO, *],Jb ‹_› e hT hL H⟩)
 .exact .inr (.inr (.inl ⟨_,_,_,‹_›,e⟩))
 .exact .inr (.inr (.inr ⟨_,_,_,_,‹_›,e⟩))
 .rename_i b args ts ho
  split at e
  .rename_i x ha
   split at e
   .exact .inl (O5 ho rfl ha ‹_› e hT hL H)
   .cases e
  .rename_i a x ha
   split at e
   .exact .inr (.inl ⟨by rw[ho];rfl,ES ho rfl ha ‹_› e hT hL H⟩)
   .cases e
  .rename_i d x ha
   split at e
   .exact .inr (.inl ⟨by rw[ho];rfl,Ld ho rfl ha ‹_› e hT hL H⟩)
   .cases e
  .exact .inl (O1 ho rfl ‹_› e hT hL H)
  .exact .inl (O4 ho rfl ‹_› e hT hL H)
  .cases e
 .cases e
theorem O7{α:Type}{x:Option α}{h:AH}{F:α->Nat->eY}(k:∀a,∃r,∀n,F a n=ok1 r h n):∃r,∀n,aJ x (λa=>F a n)=ok1 r h n:=by
 cases x with
 |none=>exact⟨none,λ_=>rfl⟩
 |some a=>exact k a
theorem W_{h:AH}(v:AV):∃r,∀n:Nat,eY.ok v h n=ok1 r h n:=⟨some v,λ_=>rfl⟩
theorem Tn{h:AH}(x:Option AV):∃r,∀n:Nat,ok1 x h n=ok1 r h n:=⟨x,λ_=>rfl⟩
theorem Tp{c:Bool}{a b:Cl}{f:FT}{t:Tr AV}{l:List AV}{h:AH}(k1:∃r,∀n,a.run f t l h n=ok1 r h n)(k2:∃r,∀n,b.run f t l h n=ok1 r h n):∃r,∀n,(bc c a b).run f t l h n=ok1 r h n:=by
 cases c<;>assumption
theorem Tq{c:Bool}{a b:Nat->eY}{h:AH}(k1:∃r,∀n,a n=ok1 r h n)(k2:∃r,∀n,b n=ok1 r h n):∃r,∀n,bc c (a n) (b n)=ok1 r h n:=by
 cases c<;>assumption
theorem Jc(hk:dO o.op=0\/dO o.op=1)(f:FT)(t:Tr AV)(l:List AV)(h:AH):∃r,∀n,(cop P s Y L o).run f t l h n=ok1 r h n:=by
 unfold cop;split;all_goals first
  |(exfalso;rename_i ho;rw[ho]at hk;simp[dO]at hk;done)
  |skip
 all_goals first|unfold KY|unfold CX|unfold xS|unfold CY|unfold qb|unfold A8|unfold OM|unfold OO|unfold oI|unfold iJ|unfold qd|unfold xU|unfold jJ|unfold xV|unfold jK|unfold xW|unfold sV|unfold oJ|skip
 all_goals repeat' (first
  |exact⟨none,λ_=>rfl⟩
  |exact W_ _
  |exact Tn _
  |refine O7 λ_=>?_
  |refine Tp ?_ ?_
  |refine Tq ?_ ?_
  |split
  |unfold KZ
  |unfold K3
  |unfold K4
  |dsimp only
  |(exfalso;simp_all [dO];done))
theorem Ai(hk:dO o.op=0\/dO o.op=1){m:Nat}(e:(cop P s Y L o).run f t l h m= .ok v h' n')(hT:RT s θ t ac.tmps)(hL:LR s θ L l ac.tmps)(H:RH P sl θ h n w):
 ∃u,(execOp ac.eval o).run P w= .ok (.value u) w/\aV θ v u:=by
 obtain⟨r,hr⟩:=Jc (P:=P) (s:=s) (Y:=Y) (L:=L) hk f t l h;rw[hr]at e;obtain⟨rfl,rfl,rfl⟩:=gT e;have e:(cop P s Y L o).run f t l h' n= .ok v h' n:=by rw[hr];rfl
 rcases Lf e hT hL H with k|⟨k,_⟩|⟨g,args,ts,k,_⟩|⟨x,nm,args,ts,k,_⟩
 .cases k with
  |WV hr hv=>exact⟨_,hr,hv⟩
  |alloc e=>obtain⟨_,_,hn⟩:=Ae e;omega
 .rw[k]at hk;simp at hk
 .rw[k]at hk;simp[dO]at hk
 .rw[k]at hk;simp[dO]at hk
theorem Je(hk:dO o.op=2){x:Nat}(e:(cop P s Y L o).run f t l h x= .ok v h' (x+1))(hT:RT s θ t ac.tmps)(hL:LR s θ L l ac.tmps):
 ∃ob obj c u,h'=h.set x ob/\rO P sl θ c ob obj/\(execOp ac.eval o).run P w= .ok (.value u) (w.alloc obj)/\aV (θ.ins x (w.heap.size,c)) v u/\zN (some ob)=true:=by
 have key:gM P sl θ h x w ((execOp ac.eval o).run P w) v h' (x+1):=by
  unfold cop at e;split at e;all_goals first
   |exact Ag ‹_› e
   |exact G9 ‹_› e hT hL
   |exact oN ‹_› e hT hL
   |exact wC ‹_› e
   |exact tC ‹_› e
   |exact qV ‹_› e hT hL
   |(exfalso;rename_i ho;rw[ho]at hk;simp[dO]at hk;done)
   |cases e
   |skip
  rename_i b args ts ho;rw[ho]at hk;cases b<;>simp[dO]at hk
 cases key with
 |alloc e c hA hr hv ho=>
  obtain⟨rfl,rfl,_⟩:=Ae e;exact⟨_,_,c,_,rfl,hA,hr,hv,ho⟩
end
end
section
def FR(r:Option Nat):Fence:={Fence.wide with round:=r}
section
variable (P:Program) (sl:FuncId->Sl)
def wX(θ:Th)(h:AH)(w:World)(v:AV)(h':AH)(n':Nat)(e:Ending)(w':World):Prop:=∃bP u,e= .returned u/\aV bP v u/\RH P sl bP h' n' w'/\Fr θ h w bP h' w'
def Good(f:FT):Prop:=∀g args h n v h' n',f g args h n= .ok v h' n'->(∃fn c,P.funcs[g]?=some fn/\fn.body=some c)/\∀θ w vs,RH P sl θ h n w->eU θ args vs->Calls P g vs.toArray w (wX P sl θ h w v h' n')
def qK:Prop:=P.follows .mixedOrders=true/\∀(g:FuncId)(fn:Func),P.funcs[g]?=some fn->(fn.name== "runtime.NumGoroutine")=false
def wE(Y:YT)(f:FT):Prop:=∀x args h n v h' n',Y x args f h n= .ok v h' n'->∀θ w vs r c,RH P sl θ h n w->eU θ args vs->θ x=some (r,c)->
 ∃fn tm fH body,(Instr.yield r vs.toArray).run P w= .ok (.round r fn tm fH body) w/\∀m,RoundIn Fence.wide m P r fn tm fH body w (wX P sl θ h w v h' n')
end
section
variable {P:Program} {sl:FuncId->Sl} {θ:Th} {h h':AH} {n n':Nat} {w:World} {s:Sl} {L:List Tmp} {t:Tr AV} {l:List AV} {ac:Act} {o:Oper} {f:FT} {v:AV} {Y:YT}
theorem mY(r:Option Nat){m:Nat}{g:FuncId}{args:Array Value}{R:Ending->World->Prop}(hc:Calls P g args w R):CallsIn (FR r) m P g args w R:=by
 have h1:CallsIn Fence.wide m P g args w R:=callsIn_wide.2 hc;exact h1
theorem kK(e:(cop P s Y L o).run f t l h n= .ok v h' n')(c:Call):o.op≠ .defer c:=by
 intro ho;simp only[cop,ho]at e;cases e
theorem EX{ty:TypeId}{nm:String}{g:FuncId}(u:Value)(e:GX P ty nm=some g):(method (P.types.size+Made.depth) ty u nm).run P w= .ok (g,u) w:=by
 unfold GX at e;split at e
 .cases e
 .rename_i d hn hd
  obtain⟨i,e1,e⟩:=aB e;obtain⟨m,e2,e⟩:=aB e;obtain⟨e3,e⟩:=bI e;split at e
  .rename_i g' hm
   cases e
   have e4:m.path.toList=[]:=by simpa [Array.isEmpty_iff]using e3
   have e5:i.methods.find? (·.name==nm)=some m:=by rw[<-Array.find?_toList];exact e2
   have key:∀z,(receiverAt ty (.val u) false z).run P w= .ok u w:=λz=>by
    unfold receiverAt;simp only[Sem.run_bind,run_underlying hd,Result.andThen_ok];cases d<;>first|rfl|exact absurd rfl (hn _)
   show(method ((P.types.size+99)+1) ty u nm).run P w=_;unfold method;simp[typeInfo,e1,e5,e4,hm,follow,key]
  .cases e
 .cases e
theorem Rt(hP:qK P)(r:Option Nat)(m:Nat)(hf:Good P sl f)(hY:wE P sl Y f)(e:(cop P s Y L o).run f t l h n= .ok v h' n')(hT:RT s θ t ac.tmps)(hL:LR s θ L l ac.tmps)(H:RH P sl θ h n w){K:Act->World->Prop}{Q:Exit->Act->World->Prop}
 (hK:∀bP u w',aV bP v u->RH P sl bP h' n' w'->Fr θ h w bP h' w'->K (ac.put o.dst u) w'):o.wpIn (FR r) m P ac w K Q:=by
 refine⟨λ_ _=>trivial,?_⟩;have Tt:o.semAt (FR r).round ac.eval=execOp ac.eval o:=by
  have:=kK e;unfold Oper.semAt;split
  .exact absurd ‹_› (this _)
  .rfl
 rw[Tt];have acH:KG P sl θ h w ((execOp ac.eval o).run P w) v h' n'\/(∃g args ts,o.op= .call ⟨.value g,args,ts⟩/\(GV s Y L g args.toList).run f t l h n= .ok v h' n')\/∃x nm args ts,o.op= .call ⟨.invoke x nm,args,ts⟩/\(sW P s L x nm args.toList).run f t l h n= .ok v h' n':=by
  rcases Lf e hT hL H with k|⟨_,k⟩|k
  .exact .inl (k.ok H)
  .exact .inl k
  .exact .inr k
 rcases acH with⟨bP,u,w',hr,hv,hR,hF⟩|⟨g,args,ts,ho,hc⟩|⟨x,nm,args,ts,ho,hc⟩
 .rcases hr with hr|⟨hr,rfl⟩<;>rw[hr]<;>exact hK bP _ w' hv hR hF
 .obtain⟨ga,g1,g2⟩:=aS (show aJ ((co s L g).run t l) _= .ok v h' n' from hc)
  obtain⟨ar,g3,g4⟩:=aS g2;have hg:=bF g1 hT hL;have ha:=Bf hT hL g3;split at g4
  .rename_i q cap
   obtain⟨vs,k1,k2⟩:=hg;rw[iK]at g4;obtain⟨⟨fn,c,hq,hbd⟩,hcall⟩:=hf _ _ _ _ _ _ _ g4;replace hcall:=hcall θ w _ H (ha.append k1);have hsz:(List.map ac.eval args.toList++vs).toArray=args.map ac.eval++vs.toArray:=Array.toList_inj.1 (by simp);rw[hsz]at hcall;have hrun:(execOp ac.eval o).run P w= .ok (.enter q (args.map ac.eval++vs.toArray)) w:=by
    have hne:¬fn.name= "runtime.NumGoroutine":=by simpa using hP.2 _ _ hq
    simp[execOp,ho,resolve,k2,Deferred.ofValue,invoke,callFunc,hq,hbd,hne]
   rw[hrun];refine⟨λhd=>by simp[FR,Fence.wide]at hd,(mY r hcall).mono ?_⟩;rintro e2 w' ⟨bP,u,rfl,q1,q2,q3⟩;exact hK bP u w' q1 q2 q3
  .rename_i q
   obtain⟨r',c',hr,k2⟩:=hg;obtain⟨fn,tm,fH,body,k3,k4⟩:=hY _ _ _ _ _ _ _ g4 θ w _ r' c' H ha hr;have hsz:(List.map ac.eval args.toList).toArray=args.map ac.eval:=Array.toList_inj.1 (by simp);rw[hsz]at k3;have hrun:(execOp ac.eval o).run P w= .ok (.round r' fn tm fH body) w:=by
    simp[execOp,ho,resolve,k2,Deferred.ofValue,invoke,k3]
   rw[hrun];refine⟨λhd=>by simp[FR,Fence.wide]at hd,RoundIn.mono (show RoundIn (FR r) (m - 1) P r' fn tm fH body w _ from k4 (m - 1)) ?_⟩;rintro e2 w' ⟨bP,u,rfl,q1,q2,q3⟩;exact hK bP u w' q1 q2 q3
  .cases g4
 .unfold sW at hc
  dsimp only at hc;split at hc
  .rename_i ty v0 hx
   obtain⟨ar,g3,g4⟩:=aS hc;obtain⟨q,g5,g6⟩:=aS g4;obtain⟨u,ku,k2⟩:=bF hx hT hL;have ha:=Bf hT hL g3;obtain⟨⟨fn,c,hq,hbd⟩,hcall⟩:=hf _ _ _ _ _ _ _ g6;replace hcall:=hcall θ w (u::List.map ac.eval args.toList) H ⟨u,_,ku,ha,rfl⟩;have hsz:(u::List.map ac.eval args.toList).toArray=#[u]++args.map ac.eval:=Array.toList_inj.1 (by simp);rw[hsz]at hcall;have hrun:(execOp ac.eval o).run P w= .ok (.enter q (#[u]++args.map ac.eval)) w:=by
    have hne:¬fn.name= "runtime.NumGoroutine":=by simpa using hP.2 _ _ hq
    have h0:(#[Value.iface ty u]++args.map ac.eval)[0]?=some (.iface ty u):=by rw[Array.getElem?_append_left (by simp)];rfl
    have hx:(#[Value.iface ty u]++args.map ac.eval).extract 1 (#[Value.iface ty u]++args.map ac.eval).size=args.map ac.eval:=Array.toList_inj.1 (by simp;exact List.take_of_length_le (by simp));simp only[execOp,ho,resolve,k2,invoke,Sem.run_bind,Sem.run_pure,Result.andThen_ok,h0,hx,callMethod];simp[EX u g5,callFunc,hq,hbd,hne]
   rw[hrun];refine⟨λhd=>by simp[FR,Fence.wide]at hd,(mY r hcall).mono ?_⟩;rintro e2 w' ⟨bP,u,rfl,q1,q2,q3⟩;exact hK bP u w' q1 q2 q3
  .cases hc
end
end
section
variable {P:Program} {sl:FuncId->Sl} {θ:Th} {h h':AH} {n n':Nat} {w:World} {s:Sl} {L:List Tmp} {t t':Tr AV} {l:List AV} {ac:Act} {o:Oper} {f:FT} {v:AV} {Y:YT}
theorem EY(k:Nat):∀(l:List Nat)(j:Nat),@List.rec Nat (λ_=>Nat->Option Nat) (λ_=>none) (λa _ ih j=>bc (Nat.beq k a) (some j) (ih (Nat.succ j))) l j=(@List.rec Nat (λ_=>Nat->Option Nat) (λ_=>none) (λa _ ih j=>bc (Nat.beq k a) (some j) (ih (Nat.succ j))) l 0).map (·+j)
 |[],_=>rfl
 |a::l,j=>by
  show bc (Nat.beq k a) (some j) _=(bc (Nat.beq k a) (some 0) _).map (·+j);cases Nat.beq k a with
  |true=>simp[bc]
  |false=>
   show@List.rec Nat (λ_=>Nat->Option Nat) (λ_=>none) (λa _ ih j=>bc (Nat.beq k a) (some j) (ih (Nat.succ j))) l (j+1)=Option.map (·+j) (@List.rec Nat (λ_=>Nat->Option Nat) (λ_=>none) (λa _ ih j=>bc (Nat.beq k a) (some j) (ih (Nat.succ j))) l 1);rw[EY k l (j+1),EY k l 1,Option.map_map];congr 1;funext x;simp;omega
theorem Dn(k a:Nat)(l:List Nat):idx k (a::l)=if k=a then some 0 else(idx k l).map (·+1):=by
 show bc (Nat.beq k a) (some 0) _=_;by_cases hk:k=a
 .subst hk;rw[Nat.beq_refl,if_pos rfl];rfl
 .have:Nat.beq k a=false:=by
   cases e:Nat.beq k a with
   |false=>rfl
   |true=>exact absurd (Nat.eq_of_beq_eq_true e) hk
  rw[this,if_neg hk];exact EY k l 1
theorem xB{tm:Array Value}{d k:Nat}{u:Value}(hd:d<tm.size):(tm.setIfInBounds d u)[k]?=if k=d then some u else tm[k]?:=by
 rw[Array.getElem?_setIfInBounds];by_cases hk:k=d
 .subst hk;simp[hd]
 .rw[if_neg (λe=>hk e.symm),if_neg hk]
theorem RT.put{u:Value}{d:Nat}(hT:RT s θ t ac.tmps)(hd:d+1<=s.N)(hv:aV θ v u)(hS:s.S d=true):RT s θ ((pp 20 d).run v t) (ac.tmps.setIfInBounds d u):=by
 have hsz:=hT.size;refine⟨by simpa using hT.size,λk a hk hg=>?_⟩;rw[jg]at hg;rw[xB (by omega)];by_cases e:k=d
 .rw[if_pos e]at hg⊢;cases hg;exact⟨u,rfl,hv⟩
 .rw[if_neg e]at hg⊢;exact hT.at_ k a hk hg
theorem RT.skip{u:Value}{d:Nat}(hT:RT s θ t ac.tmps)(hS:s.S d=false):RT s θ t (ac.tmps.setIfInBounds d u):=by
 refine⟨by simpa using hT.size,λk a hk hg=>?_⟩;have e:¬d=k:=λe=>by rw[e,hk]at hS;cases hS
 rw[Array.getElem?_setIfInBounds,if_neg e];exact hT.at_ k a hk hg
theorem LR.skip{u:Value}{d:Nat}(hL:LR s θ L l ac.tmps)(hS:s.S d=true):LR s θ L l (ac.tmps.setIfInBounds d u):=by
 intro k j a hk hi hj;have e:¬d=k:=λe=>by rw[e,hk]at hS;cases hS
 rw[Array.getElem?_setIfInBounds,if_neg e];exact hL k j a hk hi hj
theorem LR.push{u:Value}{d:Nat}(hL:LR s θ L l ac.tmps)(hd:d<ac.tmps.size)(hv:aV θ v u):LR s θ (d::L) (v::l) (ac.tmps.setIfInBounds d u):=by
 intro k j a hk hi hj;rw[Dn]at hi;rw[xB hd];by_cases e:k=d
 .rw[if_pos e]at hi⊢;cases hi;cases hj;exact⟨u,rfl,hv⟩
 .rw[if_neg e]at hi⊢
  cases hi2:idx k L with
  |none=>rw[hi2]at hi;cases hi
  |some q=>rw[hi2]at hi;cases hi;exact hL k q a hk hi2 hj
theorem Lg{d:Option Tmp}{u:Value}{K:Tr AV->List AV->eZ}{x:Ex}{h1:AH}{n1:Nat}{t1:Tr AV}(e:(Rq s d).run t l v K= .ok x h1 n1 t1)(hT:RT s θ t ac.tmps)(hL:LR s θ L l ac.tmps)(hv:aV θ v u):
 ∃t2 l2,K t2 l2= .ok x h1 n1 t1/\RT s θ t2 (ac.put d u).tmps/\LR s θ (OQ s d L) l2 (ac.put d u).tmps/\(ac.put d u).defers=ac.defers:=by
 cases d with
 |none=>exact⟨t,l,e,hT,hL,rfl⟩
 |some d=>
  cases hb:Nat.ble (Nat.succ d) (s.N)with
  |false=>
   have:(bc (Nat.ble (Nat.succ d) (s.N)) _ _:Tg).run t l v K= .ok x h1 n1 t1:=e;rw[hb,fU]at this;cases this
  |true=>
   have e':(bc (Nat.ble (Nat.succ d) (s.N)) _ _:Tg).run t l v K= .ok x h1 n1 t1:=e;rw[hb,bD]at e';have hd:d+1<=s.N:=Nat.le_of_ble_eq_true hb;cases hS:s.S d with
   |true=>
    rw[hS,bD]at e';refine⟨_,_,e',hT.put hd hv hS,?_,rfl⟩;show LR s θ (bc (s.S d) L (d::L)) l _;rw[hS];exact hL.skip hS
   |false=>
    rw[hS,fU]at e';refine⟨_,_,e',hT.skip hS,?_,rfl⟩;show LR s θ (bc (s.S d) L (d::L)) (v::l) _;rw[hS];exact hL.push (Nat.lt_of_lt_of_le hd hT.size) hv
theorem aV.Lh{x:AV}{b:Bool}(hv:aV θ x (.bool b)):x= .b b:=by
 cases x with
 |b x=>cases hv;rfl
 |p x o=>obtain⟨r,c,_,e⟩:=hv;cases e
 |sl x a b c d=>obtain⟨r,c,_,_,e⟩:=hv;cases e
 |m x=>obtain⟨r,c,_,e⟩:=hv;cases e
 |f g c=>obtain⟨r,_,e⟩:=hv;cases e
 |y x=>obtain⟨r,c,_,e⟩:=hv;cases e
 |zH t x=>obtain⟨r,_,e⟩:=hv;cases e
 |agg l=>obtain⟨r,_,_,e⟩:=hv;cases e
 |bQ l=>obtain⟨r,_,e⟩:=hv;cases e
 |k c=>have e:Value.bool b=kv c:=hv;rcases tH c with e'|e'|e'|e'|e'<;>rw[e']at e<;>cases e
 |i a b=>cases hv
 |s l=>cases hv
 |es a c=>obtain⟨_,_,e⟩:=hv;cases e
theorem Li{ops:Array Oper}{g:Nat×Bool}{b:Bool}(ho:o.guard=some g)(e:(G5 s L ops (some g)).run t l=some b)(hT:RT s θ t ac.tmps)(hL:LR s θ L l ac.tmps):Region.wanted o (yielded ops ac.tmps)=b:=by
 obtain⟨j,w0⟩:=g;simp only[G5]at e;simp only[Region.wanted,ho];split at e
 .rename_i d hd
  simp only at e;split at e
  .rename_i x hx
   obtain⟨u,h1,h2⟩:=EN (show(KE s L d).run t l=some (.b x)from hx) hT hL;cases h2;cases e
   have:yielded ops ac.tmps j=some x:=by simp[yielded,hd,h1]
   rw[this];cases w0<;>cases x<;>rfl
  .rename_i x hnb hx
   obtain⟨u,h1,h2⟩:=EN (show(KE s L d).run t l=some x from hx) hT hL;cases e
   have:yielded ops ac.tmps j=none:=by
    simp only[yielded,hd,Option.bind_some,h1];split
    .rename_i b hb;cases hb;exact absurd (aV.Lh h2) (λe0=>hnb b e0)
    .rfl
   rw[this];rfl
  .cases e
 .cases e
theorem Jf(a b:Nat):List.range' a (b+1)=a::List.range' (a+1) b:=rfl
theorem Bw(hP:qK P)(r:Option Nat)(m:Nat)(hf:Good P sl f)(hY:wE P sl Y f){ops:Array Oper}{Q:Exit->Act->World->Prop}:∀(lo:List Oper)(k:Nat){L:List Tmp}{l:List AV}{t:Tr AV}{θ:Th}{h:AH}{n:Nat}{w:World}{ac:Act}{x:Ex}{h':AH}{n':Nat}{t':Tr AV},
 (∀j,lo[j]?=ops[k+j]?)->(C8 P s Y ops lo L).run f h n t l= .ok x h' n' t'->RT s θ t ac.tmps->LR s θ L l ac.tmps->RH P sl θ h n w->
 (∀bP a' w',x= .bT->RT s bP t' a'.tmps->a'.defers=ac.defers->RH P sl bP h' n' w'->Fr θ h w bP h' w'->Q .normal a' w')->wpOpsIn (FR r) m P ops Q (List.range' k lo.length) ac w
 |[],k,L,l,t,θ,h,n,w,ac,x,h',n',t',_,e,hT,_,H,hQ=>by
  cases e
  exact hQ θ ac w rfl hT rfl H (Fr.refl _ _ _)
 |o::lo,k,L,l,t,θ,h,n,w,ac,x,h',n',t',hl,e,hT,hL,H,hQ=>by
  have ho:ops[k]?=some o:=by rw[<-Nat.add_zero k,<-hl 0];rfl
  have hl':∀j,lo[j]?=ops[k+1+j]?:=λj=>by rw[show k+1+j=k+(j+1) by omega,<-hl (j+1)];rfl
  rw[List.length_cons,Jf];unfold wpOpsIn;simp only[ho]
  -- the operation is wanted
  have yes:mQ ((cop P s Y L o).run f t l h n) (λv h n=>(Rq s o.dst).run t l v λt l=>(C8 P s Y ops lo (OQ s o.dst L)).run f h n t l)= .ok x h' n' t'->o.wpIn (FR r) m P ac w (wpOpsIn (FR r) m P ops Q (List.range' (k+1) lo.length)) Q:=by
   intro e;obtain⟨v,h1,n1,e1,e2⟩:=xw e;refine Rt hP r m hf hY e1 hT hL H λbP u w' hv hR hF=>?_;obtain⟨t2,l2,e3,q1,q2,q3⟩:=Lg e2 (hT.mono hF.le) (hL.mono hF.le) hv;exact Bw hP r m hf hY lo (k+1) hl' e3 q1 q2 hR λAX a' w2 hx g1 g2 g3 g4=>hQ AX a' w2 hx g1 (g2.trans q3) g3 (hF.trans g4)
  cases hg:o.guard with
  |none=>
   have hw:Region.wanted o (yielded ops ac.tmps)=true:=by simp[Region.wanted,hg]
   rw[if_pos hw];have e':(@Option.rec (Nat×Bool) (λ_=>Cg) _ _ o.guard:Cg).run f h n t l= .ok x h' n' t':=e;rw[hg]at e';exact yes e'
  |some g=>
   have e':(@Option.rec (Nat×Bool) (λ_=>Cg) _ _ o.guard:Cg).run f h n t l= .ok x h' n' t':=e;rw[hg]at e';have e2:@Option.rec Bool (λ_=>eZ) eZ.bad (λb=>bc b _ _) ((G5 s L ops (some g)).run t l)= .ok x h' n' t':=e';cases hb:(G5 s L ops (some g)).run t l with
   |none=>rw[hb]at e2;cases e2
   |some b=>
    rw[hb]at e2;have hw:=Li hg hb hT hL;cases b with
    |true=>rw[if_pos hw];exact yes e2
    |false=>
     rw[if_neg (by rw[hw];simp)];refine⟨λ_ _=>trivial,?_⟩;obtain⟨t2,l2,e3,q1,q2,q3⟩:=Lg (K:=λt l=>(C8 P s Y ops lo (OQ s o.dst L)).run f h n t l) e2 hT hL (show aV θ (.bQ []) undef from⟨[],rfl,rfl⟩);exact Bw hP r m hf hY lo (k+1) hl' e3 q1 q2 H λAX a' w2 hx g1 g2 g3 g4=>hQ AX a' w2 hx g1 (g2.trans q3) g3 g4
end
end Go.Proofs.YtjoohkjmoghmoaaGreatDoor

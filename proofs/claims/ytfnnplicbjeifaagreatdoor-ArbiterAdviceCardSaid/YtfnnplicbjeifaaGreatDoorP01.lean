/- part -/
import Derived.Test.YtfnnplicbjeifaaGreatDoorP00
import Derived.RangeFuncRecord
import Derived.OrdersIn
import Derived.LoopNIn
import Derived.Scope
set_option linter.all false
namespace Go.Proofs.YtfnnplicbjeifaaGreatDoor
section
section
variable {P:Program} {sl:FuncId->Sl} {θ:Th} {h h':AH} {n n':Nat} {w:World} {s:Sl} {L:List Tmp} {t:Tr AV} {l:List AV} {ac:Act} {o:Oper} {f:FT} {v:AV}
theorem zO(off:Nat):∀(us:List Value)(k:Nat)(cs:Array Value),off+k+us.length<=cs.size->
 ((us.zipIdx k).foldl (λ(cs:Array Value)(c,j)=>cs.setIfInBounds (off+j) c) cs).toList=cs.toList.take (off+k)++(us++cs.toList.drop (off+k+us.length))
 |[],k,cs,_=>by simp
 |u::us,k,cs,hle=>by
  simp only[List.length_cons]at hle;rw[List.zipIdx_cons,List.foldl_cons,zO off us (k+1) (cs.setIfInBounds (off+k) u) (by simp;omega),Array.toList_setIfInBounds];have ho':off+k<cs.toList.length:=by rw[Array.length_toList];omega
  have hlen:(cs.toList.take (off+k)).length=off+k:=by rw[List.length_take];omega
  have e1:(cs.toList.set (off+k) u).take (off+(k+1))=cs.toList.take (off+k)++[u]:=by
   rw[<-Nat.add_assoc,List.take_set,List.take_succ_eq_append_getElem ho',List.set_append_right _ _ (by omega),hlen,Nat.sub_self];rfl
  have e2:(cs.toList.set (off+k) u).drop (off+(k+1)+us.length)=cs.toList.drop (off+k+(us.length+1)):=by
   rw[List.drop_set_of_lt (by omega),show off+(k+1)+us.length=off+k+(us.length+1) by omega]
  rw[e1,e2];simp
theorem Dp{pl:Nat->Option (Nat×Nat)}(hT:RT s θ t ac.tmps)(hL:LR s θ L l ac.tmps):∀{ps:List (Nat×Operand)}{c c':List AV}{cs:Array Value},(GQ s L pl ps).run t l c=some c'->fE θ c cs.toList->(∀x∈cs.toList,x.oneCell'=true)->
 ∃cs',Instr.fill pl cs (ps.map λ(i,x)=>(i,ac.eval x))=some cs'/\fE θ c' cs'.toList/\(∀x∈cs'.toList,x.oneCell'=true)/\cs'.size=cs.size
 |[],c,c',cs,e,hc,h1=>by cases e;exact⟨cs,rfl,hc,h1,rfl⟩
 |(k,x)::ps,c,c',cs,e,hc,h1=>by
  unfold GQ at e;split at e
  .cases e
  rename_i o0 w0 hp;obtain⟨a,g1,g2⟩:=aB (show bnd ((co s L x).run t l) _=some c' from e);obtain⟨u,g3,g4⟩:=aB g2;obtain⟨g5,g6⟩:=bL g4;obtain⟨d,g7,g8⟩:=aB g6;obtain⟨hu,hone⟩:=Db g3 (bH g1 hT hL);have hw:=beq_eq g5;rw[eT]at hw;have Dc:=hu.length;rw[Array.length_toList]at Dc;have hcl:=hc.length;rw[Array.length_toList]at hcl;obtain⟨g9,rfl⟩:=mW g7;let X:=(ac.eval x).cells;have hfit:o0+0+X.toList.length<=cs.size:=by rw[Array.length_toList];show o0+0+(ac.eval x).cells.size<=_;omega
  have hov:=zO o0 X.toList 0 cs hfit;generalize hY:(X.toList.zipIdx 0).foldl (λ(cs:Array Value)(c,j)=>cs.setIfInBounds (o0+j) c) cs=Y at hov;have hYv:fE θ (c.take o0++(u++c.drop (o0+u.length))) Y.toList:=by
   have h6:X.toList.length=u.length:=by rw[Array.length_toList];exact Dc
   rw[hov,Nat.add_zero,h6];exact(hc.take o0).append (hu.append (hc.drop _))
  have hY1:∀y∈Y.toList,y.oneCell'=true:=by
   intro y hy;rw[hov]at hy;rcases List.mem_append.1 hy with hy|hy
   .exact h1 y (List.mem_of_mem_take hy)
   .rcases List.mem_append.1 hy with hy|hy
    .exact hone y hy
    .exact h1 y (List.mem_of_mem_drop hy)
  have hYs:Y.size=cs.size:=by
   have h5:cs.toList.length=cs.size:=Array.length_toList;rw[<-Array.length_toList,hov,List.length_append,List.length_append,List.length_take,List.length_drop];omega
  obtain⟨cs',q1,q2,q3,q4⟩:=Dp hT hL g8 hYv hY1;refine⟨cs',?_,q2,q3,by omega⟩;rw[List.map_cons];unfold Instr.fill;simp only[hp];have hY':Array.foldl (λ(cs:Array Value)(x:Value×Nat)=>match x with|(c,j)=>cs.setIfInBounds (o0+j) c) cs (ac.eval x).cells.zipIdx=Y:=by
   rw[<-hY,<-Array.foldl_toList,Array.toList_zipIdx]
  rw[if_neg (by simp;omega)];exact(congrArg (λz=>Instr.fill pl z _) hY').trans q1
theorem Lf{ty:TypeId}{ps:Array (Nat×Operand)}(ho:o.op= .build ty ps)(e:(zI P s L ty ps.toList).run f t l h n= .ok v h' n')(hT:RT s θ t ac.tmps)(hL:LR s θ L l ac.tmps)(H:RH P sl θ h n w):gV P sl θ h n w ((execOp ac.eval o).run P w) v h' n':=by
 unfold zI at e;split at e
 .cases e
 rename_i pl hpl;obtain⟨z,g1,g2⟩:=aW (show aP (lJ P ty) _= .ok v h' n' from e);obtain⟨c,g3,g4⟩:=aW g2;cases g4
 obtain⟨i,zv,hi,hz,hv,hone⟩:=kM (θ:=θ) g1;obtain⟨cs',q1,q2,q3,q4⟩:=Dp hT hL g3 hv hone;have hb:P.built ty (ps.map λ(i,x)=>(i,ac.eval x)).toList=some cs':=by
  rw[Array.toList_map];unfold CQ at hpl;unfold Program.built;rw[hi];split at hpl
  .rename_i ln el hu
   rw[hu];cases hie:P.info? el with
   |none=>rw[hie]at hpl;cases hpl
   |some ie=>
    rw[hie]at hpl;cases hpl;simp only[hz,hie];exact q1
  .rename_i fs hu
   rw[hu];cases hm:fs.toList.mapM (λf=>(P.info? f.type).map λi=>(f.offset,i.size))with
   |none=>rw[hm]at hpl;cases hpl
   |some pls=>
    rw[hm]at hpl;cases hpl;simp only[hz,hm];have:(λk:Nat=>pls.toArray[k]?)=(λk:Nat=>pls[k]?):=by funext k;simp
    rw[this];exact q1
  .cases hpl
 refine .same H (u:=.agg cs') ?_ ⟨cs'.toList,q2,q3,by simp⟩;simp[execOp,ho,run_build w ty _ cs' hb]
def BG(c:Nat)(l:List Value):List Value:=@Nat.rec (λ_=>List Value) [] (λ_ r=>l++r) c
theorem xX(l:List Value):∀c,(BG c l).length=c*l.length
 |0=>by show([]:List Value).length=_;simp
 |c+1=>by show(l++BG c l).length=_;rw[List.length_append,xX l c,Nat.succ_mul];omega
theorem E9(l:List Value):∀(c j:Nat),j<c*l.length->(BG c l)[j]?=l[j % l.length]?
 |0,j,h=>by simp at h
 |c+1,j,h=>by
  show(l++BG c l)[j]?=_;rcases Nat.lt_or_ge j l.length with h1|h1
  .rw[List.getElem?_append_left h1,Nat.mod_eq_of_lt h1]
  .rw[Nat.succ_mul]at h
   rw[List.getElem?_append_right h1,E9 l c _ (by omega),Nat.mod_eq_sub_mod h1]
theorem Hf{z:List AV}{zs:List Value}(hz:fE θ z zs):∀c,fE θ (rep c z) (BG c zs)
 |0=>rfl
 |c+1=>by show fE θ (CP z (rep c z)) (zs++BG c zs);rw[iZ];exact hz.append (Hf hz c)
theorem JZ(z:Array Value)(c:Nat):((Array.range (c*z.size)).map (z[· % z.size]!)).toList=BG c z.toList:=by
 apply List.ext_getElem?;intro j;rcases Nat.lt_or_ge j (c*z.size)with h1|h1
 .have hz:0<z.size:=by
   rcases Nat.eq_zero_or_pos z.size with e|e
   .rw[e]at h1;simp at h1
   .exact e
  have hm:=Nat.mod_lt j hz;rw[E9 _ _ _ (by rw[Array.length_toList];exact h1),Array.length_toList,Array.getElem?_toList,Array.getElem?_toList,Array.getElem?_map,Array.getElem?_range,if_pos h1,Array.getElem?_eq_getElem hm];simp[hm]
 .rw[List.getElem?_eq_none (by simp;exact h1),List.getElem?_eq_none (by rw[xX,Array.length_toList];exact h1)]
theorem zP{l:List Value}(h1:∀x∈l,x.oneCell'=true):∀(c:Nat),∀x∈BG c l,x.oneCell'=true
 |0,x,h=>by cases h
 |c+1,x,h=>by
  rcases List.mem_append.1 (show x∈l++BG c l from h)with h|h
  .exact h1 x h
  .exact zP h1 c x h
theorem qb{ty:TypeId}{len:Nat}{ps:Array (Nat×Operand)}(ho:o.op= .buildSlice ty len ps)(e:(lK P s L ty len ps.toList).run f t l h n= .ok v h' n')(hT:RT s θ t ac.tmps)(hL:LR s θ L l ac.tmps):gV P sl θ h n w ((execOp ac.eval o).run P w) v h' n':=by
 unfold lK at e;split at e
 case h_2=>cases e
 rename_i el hu;obtain⟨z,g1,g2⟩:=aW (show aP (lJ P el) _= .ok v h' n' from e);obtain⟨w0,g3,g4⟩:=aW g2;obtain⟨g5,g6⟩:=jg g4;obtain⟨g7,g8⟩:=jg g6;obtain⟨c,g9,g10⟩:=aW g8;obtain⟨i,hi,rfl⟩:=jc g3;obtain⟨i',zv,hi',hz,hv,hone⟩:=kM (θ:=θ) g1;rw[hi]at hi';cases hi';have hzs:zv.cells.size=i.size:=by
  have:=beq_eq g5;rw[eT]at this;have h5:=hv.length;rw[Array.length_toList]at h5;omega
 have hle:len*i.size<=1048576:=Nat.le_of_ble_eq_true g7;have hm:=JZ zv.cells len;obtain⟨cs',q1,q2,q3,q4⟩:=Dp (cs:=(Array.range (len*zv.cells.size)).map (zv.cells[· % zv.cells.size]!)) hT hL g9 (by rw[hm];exact Hf hv len) (by rw[hm];exact zP hone len);have hsz:cs'.size=len*P.cellsOf el:=by rw[q4,show P.cellsOf el=i.size from rC hi];simp[hzs]
 refine .alloc g10 len (tV.whole hsz q2 q3) (x:=.slice (some ⟨w.heap.size,0,none⟩) len len) ?_ ⟨w.heap.size,len,Th.dN _ _ _,(λh=>by cases h),rfl⟩;have q1':Instr.fill (λk=>some (k*i.size,i.size)) ((Array.range (len*i.size)).map (zv.cells[· % zv.cells.size]!)) ((ps.map λ(i,x)=>(i,ac.eval x)).toList)=some cs':=by
  rw[Array.toList_map,<-hzs];rw[hzs];rw[hzs]at q1;exact q1
 have hbig:¬(2 ^ 24<len*i.size):=by omega
 by_cases h0:len*i.size=0
 .have hr:(Array.range (len*i.size)).map (zv.cells[· % zv.cells.size]!)=#[]:=by rw[h0];simp
  rw[hr]at q1';have hr2:∀(zz:Array Value),(Array.range (len*i.size)).map (zz[· % zz.size]!)=#[]:=λzz=>by rw[h0];simp
  have WR:=q1';rw[<-hr2 #[]]at WR;simp only[execOp,ho,Instr.buildSlice,Sem.run_bind,run_underlying hu,Result.andThen_ok,sizeOf,typeInfo,run_program,hi,Sem.run_pure];rw[if_neg hbig];simp only[h0,if_true,Sem.run_bind,Sem.run_pure,Result.andThen_ok];rw[h0]at WR;rw[WR];simp[newRow]
 .simp only[execOp,ho,Instr.buildSlice,Sem.run_bind,run_underlying hu,Result.andThen_ok,sizeOf,typeInfo,run_program,hi,Sem.run_pure]
  rw[if_neg hbig];simp only[h0,if_false,Sem.run_bind,Sem.run_pure,Result.andThen_ok,zeroValue,typeInfo,run_program,hi,hz];rw[q1'];simp[newRow]
theorem sZ{ty:TypeId}{x y:Operand}(ho:o.op= .makeSlice ty x y)(e:(nS P s L ty x y).run f t l h n= .ok v h' n')(hT:RT s θ t ac.tmps)(hL:LR s θ L l ac.tmps):gV P sl θ h n w ((execOp ac.eval o).run P w) v h' n':=by
 unfold nS at e;split at e
 case h_2=>cases e
 rename_i el i z hu hi0 hz0;rw[EZ hu]at hi0 hz0;cases g1:Nat.beq (nP z) i.size with
 |false=>rw[g1]at e;cases e
 |true=>
 rw[g1,bD]at e;cases g2:Nat.ble i.bytes 65536 with
 |false=>rw[g2]at e;cases e
 |true=>
 rw[g2,bD]at e;simp only at e;split at e
 case h_2=>cases e
 rename_i k1 a k2 c h0 h1;have hp:ac.eval x= .int k1 (a:Int):=bH h0 hT hL;have hq:ac.eval y= .int k2 (c:Int):=bH h1 hT hL;obtain⟨g3,e⟩:=jg e;obtain⟨g4,e⟩:=jg e;have hac:a<=c:=Nat.le_of_ble_eq_true g3;have hc:c<=1048576:=Nat.le_of_ble_eq_true g4;obtain⟨i',zv,hi',hz,hv,hone⟩:=kM (θ:=θ) hz0;rw[hi0]at hi';cases hi';have hzs:zv.cells.size=i.size:=by
  have:=beq_eq g1;rw[eT]at this;have h5:=hv.length;rw[Array.length_toList]at h5;omega
 have hb:i.bytes<=65536:=Nat.le_of_ble_eq_true g2;have hbc:i.bytes*c<=281474976710656:=Nat.le_trans (Nat.mul_le_mul hb hc) (by decide);have hrun:=run_make w ty el i zv hu hi0 hz k1 k2 (a:Int) (c:Int) (by omega) (by omega) (by rw[<-Int.natCast_mul];omega) (by omega);have hm:(madeCells zv.cells (c*i.size)).toList=BG c zv.cells.toList:=by rw[<-hzs];exact JZ zv.cells c
 refine .alloc e c (tV.whole (cs:=madeCells zv.cells (c*i.size)) (by rw[size_madeCells,show P.cellsOf el=i.size from rC hi0]) (by rw[hm];exact Hf hv c) (by rw[hm];exact zP hone c)) (x:=.slice (some ⟨w.heap.size,0,none⟩) a c) ?_ ⟨w.heap.size,c,Th.dN _ _ _,(λh=>by cases h),rfl⟩;simp only[Int.toNat_natCast]at hrun;simp[execOp,ho,hp,hq,hrun]
end
end
section
section
variable {P:Program} {sl:FuncId->Sl} {θ:Th} {h h':AH} {n n':Nat} {w:World} {s:Sl} {L:List Tmp} {t:Tr AV} {l:List AV} {ac:Act} {o:Oper} {f:FT} {v:AV}
theorem Dq{D:Nat}{em:Bool}{q:TypeId->U7}(hq:∀ty x U,(q ty).run x=true->aV θ x U->(Instr.checkKey em D ty U).run P w= .ok () w)
 {a:List AV}{xs:List Value}(ha:fE θ a xs)(h1:∀x∈xs,x.oneCell'=true):∀(fs:List Field),(GU P q fs).run (.agg a)=true->
 (forIn fs () λf _=>(if f.name≠ "_" then do
  let u <-part f.type xs.toArray f.offset
  Instr.checkKey em D f.type u
  pure (ForInStep.yield ())
  else pure (ForInStep.yield ()):Sem (ForInStep Unit))).run P w= .ok () w
 |[],_=>rfl
 |d::fs,e=>by
  rw[List.forIn_cons,Sem.run_bind];cases hn:(d.name== "_")with
  |true=>
   have hn':d.name= "_":=by simpa using hn
   have e':(GU P q fs).run (.agg a)=true:=by
    have:(bc (d.name== "_") (GU P q fs) _:U7).run (.agg a)=true:=e
    rwa [hn,bD]at this
   rw[if_neg (by simp[hn'])];exact Dq hq ha h1 fs e'
  |false=>
   have hn':d.name≠ "_":=by simpa using hn
   have e0:(bc (d.name== "_") (GU P q fs) _:U7).run (.agg a)=true:=e;rw[hn,gH]at e0;cases g1:(Nk P d.type).run a d.offset with
   |none=>simp only at e0;rw[g1]at e0;cases e0
   |some u=>
    simp only at e0;rw[g1]at e0;cases g2:(q d.type).run u with
    |false=>simp only at e0;rw[g2]at e0;cases e0
    |true=>
     simp only at e0;rw[g2,bD]at e0;obtain⟨U,k1,k2⟩:=uZ (P:=P) (w:=w) g1 ha h1;rw[if_pos hn',Sem.run_bind,k1,Result.andThen_ok,Sem.run_bind,hq _ _ _ g2 k2,Result.andThen_ok];exact Dq hq ha h1 fs e0
theorem Hg(w:World)(em:Bool):∀(d:Nat)(ty:TypeId)(x:AV)(U:Value),(yX P d ty).run x=true->aV θ x U->∀D,d<=D->(Instr.checkKey em D ty U).run P w= .ok () w
 |0,_,_,_,h,_,_,_=>by cases h
 |d+1,ty,x,U,h,hx,0,hD=>by omega
 |d+1,ty,x,U,h,hx,D+1,hD=>by
  unfold yX at h;split at h
  .rename_i hu
   simp only[Instr.checkKey,Sem.run_bind,run_underlying hu,Result.andThen_ok];rfl
  .rename_i k hu
   simp only[Instr.checkKey,Sem.run_bind,run_underlying hu,Result.andThen_ok];rfl
  .rename_i hu
   simp only[Instr.checkKey,Sem.run_bind,run_underlying hu,Result.andThen_ok];rfl
  .rename_i fs hu
   simp only at h;split at h
   .obtain⟨xs,h1,h2,rfl⟩:=hx
    have k:=Dq (P:=P) (w:=w) (D:=D) (em:=em) (λty x U g1 g2=>Hg w em d ty x U g1 g2 D (by omega)) h1 h2 fs.toList h;simp only[Instr.checkKey,Sem.run_bind,run_underlying hu,Result.andThen_ok];rw[<-Array.forIn_toList];rw[k];rfl
   .cases h
  .cases h
def aaD(θ:Th)(q:NG)(k:AV)(i:Nat)(l0:List MapEntry):Option (Nat×AV)->Option (Nat×Value)->Prop
 |none,R=>R=none
 |some (j,a),R=>∃V,R=some (j,V)/\aV θ a V/\i<=j/\∃m,l0[j - i]?=some m/\∃b,q.run k b=some true/\aV θ b m.key
theorem find_ok{q:NG}{k:AV}{K:Value}{kt:TypeId}{kd:TypeDesc}(hq:∀a A e,q.run k a=some e->aV θ a A->(Op.equal kt K A).run P w= .ok e w)
 (hs:∀a A e b,q.run k a=some e->aV θ a A->Instr.sameNow kd K A=some b->b=e):∀{es:List (AV×AV×Nat)}{l0:List MapEntry}{i:Nat}{r:Option (Nat×AV)},oO q k es i=some r->Es θ es l0->
 ∃R,aaD θ q k i l0 r R/\(Instr.findAsking kt K l0 i).run P w= .ok R w/\∀R',Instr.findNow kd K l0 i=some R'->R'=R
 |[],_,i,r,e,hv=>by
  rw[Es]at hv;subst hv;cases e;exact⟨none,rfl,rfl,λR' h=>by cases h;rfl⟩
 |(a,b,c)::es,_,i,r,e,hv=>by
  obtain⟨m,ms,h1,h2,h3,h4,rfl⟩:=hv;obtain⟨b0,g1,g2⟩:=aB (show bnd (q.run k a) _=some r from e);have k1:=hq _ _ _ g1 h1;cases b0 with
  |true=>
   cases g2
   refine⟨some (i,m.val),⟨m.val,rfl,h2,Nat.le_refl _,m,by simp,a,g1,h1⟩,?_,λR' hR=>?_⟩
   .simp only[Instr.findAsking,Sem.run_bind,k1,Result.andThen_ok,if_true];rfl
   .unfold Instr.findNow at hR
    split at hR
    .cases hR;rfl
    .rename_i h5;cases hs _ _ _ _ g1 h1 h5
    .cases hR
  |false=>
   obtain⟨R,q1,q2,q3⟩:=find_ok hq hs (show oO q k es (i+1)=some r from g2) h4;refine⟨R,?_,?_,λR' hR=>?_⟩
   .cases r with
    |none=>exact q1
    |some p=>obtain⟨V,e1,e2,e3,m',e4,e5⟩:=q1;exact⟨V,e1,e2,by omega,m',by rw[show p.1 - i=(p.1 - (i+1))+1 by omega];exact e4,e5⟩
   .simp only[Instr.findAsking,Sem.run_bind,k1,Result.andThen_ok,Bool.false_eq_true,if_false];exact q2
   .unfold Instr.findNow at hR
    split at hR
    .rename_i h5;cases hs _ _ _ _ g1 h1 h5
    .exact q3 R' hR
    .cases hR
theorem Sd{kt:TypeId}{kd:TypeDesc}(hu:P.underlying kt=some kd){d:Nat}{k a:AV}{K A:Value}{e b:Bool}(h1:(su P d kt).run k a=some e)(hk:aV θ k K)(ha:aV θ a A)(hb:Instr.sameNow kd K A=some b):b=e:=by
 have h2:=Dl (P:=P) default d kt k a e K A h1 hk ha (d+1) (by omega);unfold Instr.sameNow at hb;split at hb
 .split at hb
  .cases hb
   rename_i hkk;subst hkk;simp only[Op.equalIn,Sem.run_bind,run_underlying hu,Result.andThen_ok,if_true,Sem.run_pure,Result.ok.injEq]at h2;exact h2.1
  .cases hb
 .cases hb
  simp only[Op.equalIn,Sem.run_bind,run_underlying hu,Result.andThen_ok,Sem.run_pure,Result.ok.injEq]at h2;exact h2.1
 .cases hb
  simp only[Op.equalIn,Sem.run_bind,run_underlying hu,Result.andThen_ok,Sem.run_pure,Result.ok.injEq]at h2;exact h2.1
 .cases hb
theorem tZ{kt:TypeId}{kd:TypeDesc}(hu:P.underlying kt=some kd){k:AV}{K:Value}{es:List (AV×AV×Nat)}{l0:List MapEntry}{r:Option (Nat×AV)}(e:oO (su P 30 kt) k es 0=some r)(hk:aV θ k K)(hv:Es θ es l0):
 ∃R,aaD θ (su P 30 kt) k 0 l0 r R/\(Instr.findKey kt K l0).run P w= .ok R w:=by
 obtain⟨R,q1,q2,q3⟩:=find_ok (P:=P) (w:=w) (kt:=kt) (kd:=kd) (λa A e g1 g2=>Dl (P:=P) w 30 kt k a e K A g1 hk g2 Op.maxDepth (by decide)) (λa A e b g1 g2 g3=>Sd hu g1 hk g2 g3) e hv;refine⟨R,q1,?_⟩;unfold Instr.findKey;rw[Sem.run_bind,run_underlying hu,Result.andThen_ok];cases hf:Instr.findNow kd K l0 0 with
 |none=>exact q2
 |some R'=>rw[q3 R' hf];rfl
theorem J2{k v:AV}{K V:Value}(hk:aV θ k K)(hv:aV θ v V):∀{es:List (AV×AV×Nat)}{l0:List MapEntry}(i:Nat),Es θ es l0->i<es.length->Es θ (GR k v i es) (l0.modify i λe=>{e with key:=K,val:=V})
 |[],_,_,_,h=>by simp at h
 |(a,b,c)::es,_,0,e,_=>by
  obtain⟨m,ms,h1,h2,h3,h4,rfl⟩:=e;exact⟨{m with key:=K,val:=V},ms,hk,hv,h3,h4,rfl⟩
 |(a,b,c)::es,_,i+1,e,h=>by
  obtain⟨m,ms,h1,h2,h3,h4,rfl⟩:=e;exact⟨m,_,h1,h2,h3,J2 hk hv i h4 (by simpa using h),by simp⟩
theorem Es.append:∀{es es':List (AV×AV×Nat)}{l0 l1:List MapEntry},Es θ es l0->Es θ es' l1->Es θ (es++es') (l0++l1)
 |[],_,_,_,e,h=>by rw[Es]at e;subst e;exact h
 |(a,b,c)::es,_,_,_,e,h=>by obtain⟨m,ms,h1,h2,h3,h4,rfl⟩:=e;exact⟨m,_,h1,h2,h3,Es.append h4 h,rfl⟩
theorem Hl{ty:TypeId}{x k:Operand}{ok:Bool}(ho:o.op= .lookup ty x k ok)(e:(uU P s L ty x k ok).run f t l h n= .ok v h' n')(hT:RT s θ t ac.tmps)(hL:LR s θ L l ac.tmps)(H:RH P sl θ h n w):gV P sl θ h n w ((execOp ac.eval o).run P w) v h' n':=by
 unfold uU at e;split at e
 case h_2=>cases e
 rename_i kt el hu;obtain⟨xa,g1,g2⟩:=aW (show aP ((co s L x).run t l) _= .ok v h' n' from e);obtain⟨ka,g3,g4⟩:=aW g2;obtain⟨g5,rfl,rfl⟩:=h_ g4;obtain⟨g6,g7⟩:=bL g5;obtain⟨r,g8,g9⟩:=aB g7;have hx:=bH g1 hT hL;have hk:=bH g3 hT hL;have hck:=λem=>Hg (P:=P) w em 30 kt ka _ g6 hk 10000 (by omega);obtain⟨kd,hkd⟩:∃kd,P.underlying kt=some kd:=by
  cases hkd:P.underlying kt with
  |none=>
   have:(yX P 30 kt).run ka=false:=by show(yX P (29+1) kt).run ka=false;unfold yX;rw[hkd]
   rw[this]at g6;cases g6
  |some kd=>exact⟨kd,rfl⟩
 split at g8
 .rename_i b
  obtain⟨es,q1,q2⟩:=aB g8;obtain⟨pX,q3⟩:=BU q1;obtain⟨r',q,hr,hp⟩:=hx;obtain⟨r2,c2,obj,e1,e2,en,rfl,e3⟩:=H.at_ _ _ q3;rw[hr]at e1;cases e1;obtain⟨R,f1,f2⟩:=tZ (P:=P) (w:=w) hkd q2 hk e3;cases r with
  |none=>
   cases f1
   obtain⟨z,z1,z2⟩:=aB (show bnd (zeroV P el) _=some v from g9);obtain⟨i,zv,i1,i2,i3⟩:=tY (θ:=θ) z1;cases ok with
   |false=>
    cases z2
    refine .same H ?_ i3;simp[execOp,ho,hp,Instr.lookup,run_underlying hu,getObj,Sem.run,e2,hck,f2,zeroValue,typeInfo,i1,i2]
   |true=>
    cases z2
    refine .same H (u:=.tuple #[zv,.bool false]) ?_ ⟨_,⟨_,_,i3,⟨_,_,rfl,rfl,rfl⟩,rfl⟩,rfl⟩;simp[execOp,ho,hp,Instr.lookup,run_underlying hu,getObj,Sem.run,e2,hck,f2,zeroValue,typeInfo,i1,i2]
  |some pr=>
   obtain⟨j,va⟩:=pr;obtain⟨V,rfl,f3,_,_⟩:=f1;cases ok with
   |false=>
    cases g9
    refine .same H ?_ f3;simp[execOp,ho,hp,Instr.lookup,run_underlying hu,getObj,Sem.run,e2,hck,f2]
   |true=>
    cases g9
    refine .same H (u:=.tuple #[V,.bool true]) ?_ ⟨_,⟨_,_,f3,⟨_,_,rfl,rfl,rfl⟩,rfl⟩,rfl⟩;simp[execOp,ho,hp,Instr.lookup,run_underlying hu,getObj,Sem.run,e2,hck,f2]
 .cases g8
  have hp:ac.eval x= .map none:=hx;obtain⟨R,f1,f2⟩:=tZ (P:=P) (w:=w) (θ:=θ) (es:=[]) (l0:=[]) (r:=none) hkd rfl hk rfl;cases f1
  obtain⟨z,z1,z2⟩:=aB (show bnd (zeroV P el) _=some v from g9);obtain⟨i,zv,i1,i2,i3⟩:=tY (θ:=θ) z1;cases ok with
  |false=>
   cases z2
   refine .same H ?_ i3;simp[execOp,ho,hp,Instr.lookup,run_underlying hu,hck,f2,zeroValue,typeInfo,i1,i2]
  |true=>
   cases z2
   refine .same H (u:=.tuple #[zv,.bool false]) ?_ ⟨_,⟨_,_,i3,⟨_,_,rfl,rfl,rfl⟩,rfl⟩,rfl⟩;simp[execOp,ho,hp,Instr.lookup,run_underlying hu,hck,f2,zeroValue,typeInfo,i1,i2]
 .cases g8
theorem Lg{k:AV}{K:Value}(hs:NH k=true)(hk:aV θ k K){kt:TypeId}{a:AV}{A:Value}{d:Nat}(e:(su P d kt).run k a=some true)(ha:aV θ a A):Instr.sameBits 10000 A K=true:=by
 cases d with
 |zero=>cases e
 |succ d=>
  unfold su at e;cases k<;>try(cases hs;done)
  all_goals(cases hk;split at e<;>try(cases e;done))
  all_goals first
   |(cases hz:P.stoodInHeld kt<;>(rw[hz]at e;exact absurd e (λh=>by cases h)))
   |skip
  .cases a<;>try(cases e;done)
   rename_i x _ _ y;cases ha;cases x<;>cases y<;>first|(cases e;done)|rfl
  .cases a<;>try(cases e;done)
   cases ha
   obtain⟨q1,q2⟩:=bL e;cases Di q1
   have q3:=Option.some.inj q2;rw[dz]at q3;simp[Instr.sameBits,of_decide_eq_true q3]
  .cases a<;>try(cases e;done)
   rename_i x _ _ y;cases ha
   have q3:sj x y=true:=Option.some.inj e;rw[jy]at q3;have q4:x=y:=by simpa using q3
   subst q4;show((⟨x.toArray⟩:ByteArray)==⟨x.toArray⟩)=true;show(x.toArray==x.toArray)=true;simp
theorem zQ{r:Nat}{en en':Array MapEntry}{c c':Nat}(e:w.heap[r]?=some (.map en c)):(setObj r (.map en' c')).run P w= .ok () {w with heap:=w.heap.setIfInBounds r (.map en' c')}:=by
 simp[setObj,Sem.run,e]
theorem RH.map(H:RH P sl θ h n w){b r d:Nat}{es es':List (AV×AV×Nat)}{c c':Nat}{en en':Array MapEntry}(e:h.get b=some (.mp es c))(hr:θ b=some (r,d))(ew:w.heap[r]?=some (.map en c))(h':Es θ es' en'.toList):
 RH P sl θ (h.set b (.mp es' c')) n {w with heap:=w.heap.setIfInBounds r (.map en' c')}/\Fr θ h w θ (h.set b (.mp es' c')) {w with heap:=w.heap.setIfInBounds r (.map en' c')}:=by
 have hb:r<w.heap.size:=by
  rcases Nat.lt_or_ge r w.heap.size with h1|h1
  .exact h1
  .rw[Array.getElem?_eq_none h1]at ew;cases ew
 refine H.turn e hr (o':=.mp es' c') (Bz:=.map en' c') ⟨en',rfl,h'⟩ rfl rfl rfl (by simp) (λk=>?_) (λ_ _ ⟨_,q,_⟩=>by cases q);show(w.heap.setIfInBounds r _)[k]?=_;rw[Array.getElem?_setIfInBounds];by_cases hk:k=r
 .subst hk;simp[hb]
 .rw[if_neg (λe=>hk e.symm),if_neg hk]
theorem tu{ty:TypeId}{m k x:Operand}(ho:o.op= .mapUpdate ty m k x\/o.op= .insert ty m k x)(e:(kI P s L ty m k x).run f t l h n= .ok v h' n')(hT:RT s θ t ac.tmps)(hL:LR s θ L l ac.tmps)(H:RH P sl θ h n w):Nl P sl θ h w ((execOp ac.eval o).run P w) v h' n':=by
 unfold kI at e;split at e
 case h_2=>cases e
 rename_i kt el hu;obtain⟨ma,g1,g2⟩:=aW (show aP ((co s L m).run t l) _= .ok v h' n' from e);obtain⟨ka,g3,g4⟩:=aW g2;obtain⟨xa,g5,g6⟩:=aW g4;have hm:=bH g1 hT hL;have hk:=bH g3 hT hL;have hx:=bH g5 hT hL;unfold CU at g6;split at g6
 case h_2=>cases g6
 rename_i b;split at g6
 case h_2=>cases g6
 rename_i es pX q3;obtain⟨g7,g8⟩:=jg g6;obtain⟨r,g9,g10⟩:=aW g8;have hck:=λem=>Hg (P:=P) w em 30 kt ka _ g7 hk 10000 (by omega);obtain⟨kd,hkd⟩:∃kd,P.underlying kt=some kd:=by
  cases hkd:P.underlying kt with
  |none=>
   have:(yX P 30 kt).run ka=false:=by show(yX P (29+1) kt).run ka=false;unfold yX;rw[hkd]
   rw[this]at g7;cases g7
  |some kd=>exact⟨kd,rfl⟩
 obtain⟨r',q,hr,hp⟩:=hm;obtain⟨r2,c2,obj,e1,e2,en,rfl,e3⟩:=H.at_ _ _ q3;rw[hr]at e1;cases e1;obtain⟨R,f1,f2⟩:=tZ (P:=P) (w:=w) hkd g9 hk e3;have hrun:(execOp ac.eval o).run P w=((Instr.mapUpdate ty (ac.eval m) (ac.eval k) (ac.eval x)).run P w).andThen λ_ w=>.ok .skip w:=by
  rcases ho with ho|ho<;>simp[execOp,ho]
 cases r with
 |none=>
  cases f1;cases g10
  have hEs:Es θ (es++[(ka,xa,pX)]) (en.push {key:=ac.eval k,val:=ac.eval x,born:=pX}).toList:=by
   rw[Array.toList_push];exact Es.append e3 ⟨_,_,hk,hx,rfl,rfl,rfl⟩
  obtain⟨k1,k2⟩:=H.map (c':=pX+1) q3 hr e2 hEs;rw[iZ];refine⟨θ,undef,_,.inr ⟨?_,rfl⟩,⟨[],rfl,rfl⟩,k1,k2⟩;rw[hrun,hp];simp[Instr.mapUpdate,run_underlying hu,getObj,Sem.run,e2,hck,f2,zQ e2]
 |some pr=>
  obtain⟨j,va⟩:=pr;obtain⟨V,rfl,f3,_,m0,hj0,b0,hb1,hb2⟩:=f1;obtain⟨g11,g12⟩:=jg g10;cases g12
  rw[Nat.sub_zero]at hj0;have hj:j<es.length:=by rw[<-Es.length e3];exact(List.getElem?_eq_some_iff.1 hj0).1
  have hEs:Es θ (GR ka xa j es) (en.modify j λe=>{e with key:=ac.eval k,val:=ac.eval x}).toList:=by
   rw[Array.toList_modify];exact J2 hk hx j e3 hj
  obtain⟨k1,k2⟩:=H.map (c':=pX) q3 hr e2 hEs;refine⟨θ,undef,_,.inr ⟨?_,rfl⟩,⟨[],rfl,rfl⟩,k1,k2⟩;have hsame:Instr.sameBits 10000 (((en[j]?).map (·.key)).getD (ac.eval k)) (ac.eval k)=true:=by
   rw[<-Array.getElem?_toList,hj0];exact Lg g11 hk hb1 hb2
  rw[hrun,hp];simp[Instr.mapUpdate,run_underlying hu,getObj,Sem.run,e2,hck,f2,Instr.keyThatStays,hsame,zQ e2]
end
end
section
section
variable {P:Program} {sl:FuncId->Sl} {θ:Th} {h h':AH} {n n':Nat} {w:World} {s:Sl} {L:List Tmp} {t:Tr AV} {l:List AV} {ac:Act} {o:Oper} {f:FT} {v:AV}
theorem Lh{ty:TypeId}{x:Operand}(ho:o.op= .range ty x)(e:(CX P s L ty x).run f t l h n= .ok v h' n')(hT:RT s θ t ac.tmps)(hL:LR s θ L l ac.tmps)(H:RH P sl θ h n w):Nl P sl θ h w ((execOp ac.eval o).run P w) v h' n':=by
 unfold CX at e;split at e
 case h_2=>cases e
 rename_i kt el hu;have key:∀(mr:Option Nat)(m:Option Nat)(c:Nat),ItM θ m mr->mk h n (.p n 0) (.it m c [] c)= .ok v h' n'->(execOp ac.eval o).run P w= .ok (.value (.pointer (some ⟨w.heap.size,0,none⟩))) (w.alloc (.mapIter mr c #[] c))->Nl P sl θ h w ((execOp ac.eval o).run P w) v h' n':=by
  intro mr m c hm hk hr;exact gV.ok H (.alloc hk 0 ⟨mr,rfl,hm⟩ hr ⟨w.heap.size,0,Th.dN _ _ _,rfl⟩)
 dsimp only at e;split at e
 .rename_i b hx
  split at e
  case h_2=>cases e
  rename_i es pX hg;obtain⟨r,d,hr,hp⟩:=bH hx hT hL;obtain⟨r2,c2,obj,e1,e2,en,rfl,e3⟩:=H.at_ _ _ hg;rw[hr]at e1;cases e1;refine key (some r) (some b) pX ⟨r,d,hr,rfl⟩ e ?_;simp[execOp,ho,Instr.range,hp,run_underlying hu,getObj,Sem.run,e2]
 .rename_i hx
  have hp:ac.eval x= .map none:=bH hx hT hL;refine key none none 0 rfl e ?_;simp[execOp,ho,Instr.range,hp,run_underlying hu]
 .cases e
theorem Es.nil{es:List MapEntry}(e:Es θ [] es):es=[]:=e
theorem Es.one{k v:AV}{c:Nat}{es:List MapEntry}(e:Es θ [(k,v,c)] es):∃x,es=[x]/\aV θ k x.key/\aV θ v x.val/\x.born=c:=by
 obtain⟨x,es',e1,e2,e3,e4,rfl⟩:=e;have:es'=[]:=e4;subst this;exact⟨x,rfl,e1,e2,e3⟩
theorem N7{x:Operand}(ho:o.op= .next x false)(e:(JQ s L x).run f t l h n= .ok v h' n')(hT:RT s θ t ac.tmps)(hL:LR s θ L l ac.tmps)(H:RH P sl θ h n w):Nl P sl θ h w ((execOp ac.eval o).run P w) v h' n':=by
 unfold JQ at e;dsimp only at e;split at e
 case h_2=>cases e
 rename_i i hx;obtain⟨r,d,hr,hp⟩:=G8 hx hT hL;have over:∀b,(execOp ac.eval o).run P w= .ok (.value (.tuple #[.bool b])) w->v= .bJ [.b b]->h'=h->n'=n->Nl P sl θ h w ((execOp ac.eval o).run P w) v h' n':=by
  rintro b hr rfl rfl rfl;exact gV.ok H (.mk0 hr ⟨_,⟨_,_,rfl,rfl,rfl⟩,rfl⟩)
 unfold NP at e;split at e
 .rename_i a1 a2 a3 hg
  cases e
  obtain⟨r2,c2,obj,e1,e2,mr,rfl,e3⟩:=H.at_ _ _ hg;rw[hr]at e1;cases e1;have e3:mr=none:=e3;subst e3;refine over false ?_ rfl rfl rfl;simp[execOp,ho,Instr.next,hp,getObj,Sem.run,e2]
 .rename_i b since NC hg
  obtain⟨r2,c2,obj,e1,e2,mr,rfl,rb,db,e3,rfl⟩:=H.at_ _ _ hg;rw[hr]at e1;cases e1;split at e
  .rename_i pX hb
   obtain⟨r3,c3,obj,e4,e5,en,rfl,e6⟩:=H.at_ _ _ hb;rw[e3]at e4;cases e4;cases e
   have:=Es.nil e6;refine over false ?_ rfl rfl rfl;obtain rfl:en=#[]:=Array.toList_inj.1 this;simp[execOp,ho,Instr.next,hp,getObj,Sem.run,e2,e5,choose,Question.forced]
  .rename_i k u c pX hb
   obtain⟨r3,c3,obj,e4,e5,en,rfl,e6⟩:=H.at_ _ _ hb;rw[e3]at e4;cases e4;obtain⟨h1,h2⟩:=jg e;cases h2
   obtain⟨x,h3,hk,hu,hc⟩:=Es.one e6;obtain rfl:en=#[x]:=Array.toList_inj.1 h3;subst hc;have hlt:x.born<since:=Nat.le_of_ble_eq_true h1;obtain⟨H2,F2⟩:=H.turn hg hr (o':=.it (some b) since [x.born] pX) (Bz:=.mapIter (some rb) since #[x.born] pX) (c:=d) (w':=w.putObj r (.mapIter (some rb) since #[x.born] pX)) ⟨_,rfl,rb,db,e3,rfl⟩ rfl rfl rfl (by simp) (λk=>by
    by_cases hk:k=r
    .subst hk;rw[if_pos rfl];exact World.putObj_heap_same (bK e2)
    .rw[if_neg hk];exact World.putObj_heap_other hk) (λd' q hq=>by obtain⟨_,h,_⟩:=hq;cases h)
   refine⟨θ,_,_,.inl ?_,⟨_,⟨_,_,rfl,⟨_,_,hk,⟨_,_,hu,rfl,rfl⟩,rfl⟩,rfl⟩,rfl⟩,H2,F2⟩;have hnl:¬since<=x.born:=by omega
   simp[execOp,ho,Instr.next,hp,getObj,setObj,Sem.run,e2,e5,choose,Question.forced,hlt,hnl,World.putObj]
  .cases e
 .rename_i b since q NC hg
  obtain⟨r2,c2,obj,e1,e2,mr,rfl,rb,db,e3,rfl⟩:=H.at_ _ _ hg;rw[hr]at e1;cases e1;split at e
  .rename_i k u c pX hb
   obtain⟨r3,c3,obj,e4,e5,en,rfl,e6⟩:=H.at_ _ _ hb;rw[e3]at e4;cases e4;obtain⟨h1,h2⟩:=jg e;obtain⟨h3,h4⟩:=jg h2;cases h4
   have hcq:=beq_eq h1;subst hcq;obtain⟨x,h5,hk,hu,hc⟩:=Es.one e6;obtain rfl:en=#[x]:=Array.toList_inj.1 h5;subst hc;have hlt:x.born<NC:=Nat.le_of_ble_eq_true h3;have hnl:¬NC<=x.born:=by omega
   refine over false ?_ rfl rfl rfl;simp[execOp,ho,Instr.next,hp,getObj,Sem.run,e2,e5,choose,Question.forced,hnl]
  .cases e
 .cases e
theorem Li{x:Operand}(ho:o.op= .entry x)(e:(CY s L x).run f t l h n= .ok v h' n')(hT:RT s θ t ac.tmps)(hL:LR s θ L l ac.tmps)(H:RH P sl θ h n w):Nl P sl θ h w ((execOp ac.eval o).run P w) v h' n':=by
 unfold CY at e;dsimp only at e;split at e
 case h_2=>cases e
 rename_i i hx;obtain⟨r,d,hr,hp⟩:=G8 hx hT hL;unfold G6 at e;split at e
 case h_2=>cases e
 rename_i b since q NC hg;obtain⟨r2,c2,obj,e1,e2,mr,rfl,rb,db,e3,rfl⟩:=H.at_ _ _ hg;rw[hr]at e1;cases e1;split at e
 case h_2=>cases e
 rename_i k u c pX hb;obtain⟨r3,c3,obj,e4,e5,en,rfl,e6⟩:=H.at_ _ _ hb;rw[e3]at e4;cases e4;obtain⟨h1,h2⟩:=jg e;obtain⟨h3,h4⟩:=jg h2;cases h4
 have hcq:=beq_eq h3;have hcs:=beq_eq h1;subst hcq hcs;obtain⟨x',h5,hk,hu,hc⟩:=Es.one e6;obtain rfl:en=#[x']:=Array.toList_inj.1 h5;subst hc;refine gV.ok H (.mk0 (u:=.tuple #[x'.key,x'.val]) ?_ ⟨_,⟨_,_,hk,⟨_,_,hu,rfl,rfl⟩,rfl⟩,rfl⟩);simp[execOp,ho,Instr.entry,hp,getObj,Sem.run,e2,e5]
end
end
section
section
variable {P:Program} {sl:FuncId->Sl} {θ:Th} {h h':AH} {n n':Nat} {w:World} {s:Sl} {L:List Tmp} {t:Tr AV} {l:List AV} {ac:Act} {o:Oper} {f:FT} {v:AV} {Y:YT}
theorem N8(e:(cop P s Y L o).run f t l h n= .ok v h' n')(hT:RT s θ t ac.tmps)(hL:LR s θ L l ac.tmps)(H:RH P sl θ h n w):
 gV P sl θ h n w ((execOp ac.eval o).run P w) v h' n'\/(d_ o.op=3/\Nl P sl θ h w ((execOp ac.eval o).run P w) v h' n')\/(∃g args ts,o.op= .call ⟨.value g,args,ts⟩/\(JN s Y L g args.toList).run f t l h n= .ok v h' n')\/∃x nm args ts,o.op= .call ⟨.invoke x nm,args,ts⟩/\(uV P s L x nm args.toList).run f t l h n= .ok v h' n':=by
 unfold cop at e;split at e
 .exact .inl (EU (.inl ‹_›) e hT hL H)
 .exact .inl (EU (.inr ‹_›) e hT hL H)
 .exact .inl (NU ‹_› e hT hL H)
 .exact .inl (BX ‹_› e)
 .exact .inl (JX ‹_› e hT hL)
 .exact .inl (Lf ‹_› e hT hL H)
 .exact .inl (qb ‹_› e hT hL)
 .exact .inl (NV ‹_› e hT hL H)
 .exact .inr (.inl ⟨by simp[d_, *],K9 ‹_› e hT hL H⟩)
 .exact .inl (Df ‹_› e hT hL H)
 .exact .inl (Lb ‹_› e hT hL H)
 .exact .inl (R3 ‹_› e hT hL H)
 .exact .inl (R4 ‹_› e hT hL H)
 .exact .inl (E8 ‹_› e hT hL H)
 .exact .inl (uX ‹_› e hT hL H)
 .exact .inl (Dh ‹_› rfl e hT hL H)
 .exact .inl (xW ‹_› e)
 .exact .inl (uY ‹_› e)
 .exact .inl (sZ ‹_› e hT hL)
 .exact .inl (Le ‹_› e hT hL H)
 .exact .inl (BA ‹_› e hT hL H)
 .exact .inl (K_ ‹_› e hT hL H)
 .exact .inl (BD ‹_› e hT hL H)
 .exact .inl (Ld ‹_› e hT hL H)
 .exact .inl (Hl ‹_› e hT hL H)
 .exact .inr (.inl ⟨by simp[d_, *],tu (.inl ‹_›) e hT hL H⟩)
 .exact .inr (.inl ⟨by simp[d_, *],tu (.inr ‹_›) e hT hL H⟩)
 .exact .inl (EY ‹_› e hT hL H)
 .exact .inr (.inl ⟨by simp[d_, *],Lh ‹_› e hT hL H⟩)
 .exact .inr (.inl ⟨by simp[d_, *],N7 ‹_› e hT hL H⟩)
 .exact .inr (.inl ⟨by simp[d_, *],Li ‹_› e hT hL H⟩)
 .exact .inr (.inr (.inl ⟨_,_,_,‹_›,e⟩))
 .exact .inr (.inr (.inr ⟨_,_,_,_,‹_›,e⟩))
 .rename_i b args ts ho
  split at e
  .rename_i x ha
   split at e
   .exact .inl (Sc ho rfl ha ‹_› e hT hL H)
   .cases e
  .rename_i a x ha
   split at e
   .exact .inr (.inl ⟨by rw[ho];rfl,He ho rfl ha ‹_› e hT hL H⟩)
   .cases e
  .rename_i d x ha
   split at e
   .exact .inr (.inl ⟨by rw[ho];rfl,NZ ho rfl ha ‹_› e hT hL H⟩)
   .cases e
  .exact .inl (R_ ho rfl ‹_› e hT hL H)
  .exact .inl (Sb ho rfl ‹_› e hT hL H)
  .cases e
 .cases e
theorem Sg{α:Type}{x:Option α}{h:AH}{F:α->Nat->fH}(k:∀a,∃r,∀n,F a n=ok1 r h n):∃r,∀n,aP x (λa=>F a n)=ok1 r h n:=by
 cases x with
 |none=>exact⟨none,λ_=>rfl⟩
 |some a=>exact k a
theorem aaE{h:AH}(v:AV):∃r,∀n:Nat,fH.ok v h n=ok1 r h n:=⟨some v,λ_=>rfl⟩
theorem WS{h:AH}(x:Option AV):∃r,∀n:Nat,ok1 x h n=ok1 r h n:=⟨x,λ_=>rfl⟩
theorem WT{c:Bool}{a b:Cl}{f:FT}{t:Tr AV}{l:List AV}{h:AH}(k1:∃r,∀n,a.run f t l h n=ok1 r h n)(k2:∃r,∀n,b.run f t l h n=ok1 r h n):∃r,∀n,(bc c a b).run f t l h n=ok1 r h n:=by
 cases c<;>assumption
theorem WU{c:Bool}{a b:Nat->fH}{h:AH}(k1:∃r,∀n,a n=ok1 r h n)(k2:∃r,∀n,b n=ok1 r h n):∃r,∀n,bc c (a n) (b n)=ok1 r h n:=by
 cases c<;>assumption
theorem Lj(hk:d_ o.op=0\/d_ o.op=1)(f:FT)(t:Tr AV)(l:List AV)(h:AH):∃r,∀n,(cop P s Y L o).run f t l h n=ok1 r h n:=by
 unfold cop;split;all_goals first
  |(exfalso;rename_i ho;rw[ho]at hk;simp[d_]at hk;done)
  |skip
 all_goals first|unfold NI|unfold EM|unfold zI|unfold EN|unfold qZ|unfold CV|unfold RU|unfold RV|unfold pV|unfold iY|unfold ru|unfold zJ|unfold kD|unfold zK|unfold kE|unfold zL|unfold uU|unfold pW|skip
 all_goals repeat' (first
  |exact⟨none,λ_=>rfl⟩
  |exact aaE _
  |exact WS _
  |refine Sg λ_=>?_
  |refine WT ?_ ?_
  |refine WU ?_ ?_
  |split
  |unfold NJ
  |unfold NK
  |unfold NM
  |dsimp only
  |(exfalso;simp_all [d_];done))
theorem B_(hk:d_ o.op=0\/d_ o.op=1){m:Nat}(e:(cop P s Y L o).run f t l h m= .ok v h' n')(hT:RT s θ t ac.tmps)(hL:LR s θ L l ac.tmps)(H:RH P sl θ h n w):
 ∃u,(execOp ac.eval o).run P w= .ok (.value u) w/\aV θ v u:=by
 obtain⟨r,hr⟩:=Lj (P:=P) (s:=s) (Y:=Y) (L:=L) hk f t l h;rw[hr]at e;obtain⟨rfl,rfl,rfl⟩:=h_ e;have e:(cop P s Y L o).run f t l h' n= .ok v h' n:=by rw[hr];rfl
 rcases N8 e hT hL H with k|⟨k,_⟩|⟨g,args,ts,k,_⟩|⟨x,nm,args,ts,k,_⟩
 .cases k with
  |mk0 hr hv=>exact⟨_,hr,hv⟩
  |alloc e=>obtain⟨_,_,hn⟩:=BS e;omega
 .rw[k]at hk;simp at hk
 .rw[k]at hk;simp[d_]at hk
 .rw[k]at hk;simp[d_]at hk
theorem Ll(hk:d_ o.op=2){x:Nat}(e:(cop P s Y L o).run f t l h x= .ok v h' (x+1))(hT:RT s θ t ac.tmps)(hL:LR s θ L l ac.tmps):
 ∃ob obj c u,h'=h.set x ob/\tV P sl θ c ob obj/\(execOp ac.eval o).run P w= .ok (.value u) (w.alloc obj)/\aV (θ.ins x (w.heap.size,c)) v u/\Bv (some ob)=true:=by
 have key:gV P sl θ h x w ((execOp ac.eval o).run P w) v h' (x+1):=by
  unfold cop at e;split at e;all_goals first
   |exact BX ‹_› e
   |exact JX ‹_› e hT hL
   |exact qb ‹_› e hT hL
   |exact xW ‹_› e
   |exact uY ‹_› e
   |exact sZ ‹_› e hT hL
   |(exfalso;rename_i ho;rw[ho]at hk;simp[d_]at hk;done)
   |cases e
   |skip
  rename_i b args ts ho;rw[ho]at hk;cases b<;>simp[d_]at hk
 cases key with
 |alloc e c hA hr hv ho=>
  obtain⟨rfl,rfl,_⟩:=BS e;exact⟨_,_,c,_,rfl,hA,hr,hv,ho⟩
end
end
section
def FR(r:Option Nat):Fence:={Fence.wide with round:=r}
section
variable (P:Program) (sl:FuncId->Sl)
def wU(θ:Th)(h:AH)(w:World)(v:AV)(h':AH)(n':Nat)(e:Ending)(w':World):Prop:=∃bW u,e= .returned u/\aV bW v u/\RH P sl bW h' n' w'/\Fr θ h w bW h' w'
def Good(f:FT):Prop:=∀g args h n v h' n',f g args h n= .ok v h' n'->(∃fn c,P.funcs[g]?=some fn/\fn.body=some c)/\∀θ w vs,RH P sl θ h n w->fE θ args vs->Calls P g vs.toArray w (wU P sl θ h w v h' n')
def sF:Prop:=P.follows .mixedOrders=true/\∀(g:FuncId)(fn:Func),P.funcs[g]?=some fn->(fn.name== "runtime.NumGoroutine")=false
def xY(Y:YT)(f:FT):Prop:=∀x args h n v h' n',Y x args f h n= .ok v h' n'->∀θ w vs r c,RH P sl θ h n w->fE θ args vs->θ x=some (r,c)->
 ∃fn tm fT body,(Instr.yield r vs.toArray).run P w= .ok (.round r fn tm fT body) w/\∀m,RoundIn Fence.wide m P r fn tm fT body w (wU P sl θ h w v h' n')
end
section
variable {P:Program} {sl:FuncId->Sl} {θ:Th} {h h':AH} {n n':Nat} {w:World} {s:Sl} {L:List Tmp} {t:Tr AV} {l:List AV} {ac:Act} {o:Oper} {f:FT} {v:AV} {Y:YT}
theorem nY(r:Option Nat){m:Nat}{g:FuncId}{args:Array Value}{R:Ending->World->Prop}(hc:Calls P g args w R):CallsIn (FR r) m P g args w R:=by
 have h1:CallsIn Fence.wide m P g args w R:=callsIn_wide.2 hc;exact h1
theorem lM(e:(cop P s Y L o).run f t l h n= .ok v h' n')(c:Call):o.op≠ .defer c:=by
 intro ho;simp only[cop,ho]at e;cases e
theorem Ho{ty:TypeId}{nm:String}{g:FuncId}(u:Value)(e:sW P ty nm=some g):(method (P.types.size+Made.depth) ty u nm).run P w= .ok (g,u) w:=by
 unfold sW at e;split at e
 .cases e
 .rename_i d hn hd
  obtain⟨i,e1,e⟩:=aB e;obtain⟨m,e2,e⟩:=aB e;obtain⟨e3,e⟩:=bL e;split at e
  .rename_i g' hm
   cases e
   have e4:m.path.toList=[]:=by simpa [Array.isEmpty_iff]using e3
   have e5:i.methods.find? (·.name==nm)=some m:=by rw[<-Array.find?_toList];exact e2
   have key:∀z,(receiverAt ty (.val u) false z).run P w= .ok u w:=λz=>by
    unfold receiverAt;simp only[Sem.run_bind,run_underlying hd,Result.andThen_ok];cases d<;>first|rfl|exact absurd rfl (hn _)
   show(method ((P.types.size+99)+1) ty u nm).run P w=_;unfold method;simp[typeInfo,e1,e5,e4,hm,follow,key]
  .cases e
 .cases e
theorem U_(hP:sF P)(r:Option Nat)(m:Nat)(hf:Good P sl f)(hY:xY P sl Y f)(e:(cop P s Y L o).run f t l h n= .ok v h' n')(hT:RT s θ t ac.tmps)(hL:LR s θ L l ac.tmps)(H:RH P sl θ h n w){K:Act->World->Prop}{Q:Exit->Act->World->Prop}
 (hK:∀bW u w',aV bW v u->RH P sl bW h' n' w'->Fr θ h w bW h' w'->K (ac.put o.dst u) w'):o.wpIn (FR r) m P ac w K Q:=by
 refine⟨λ_ _=>trivial,?_⟩;have WV:o.semAt (FR r).round ac.eval=execOp ac.eval o:=by
  have:=lM e;unfold Oper.semAt;split
  .exact absurd ‹_› (this _)
  .rfl
 rw[WV];have agK:Nl P sl θ h w ((execOp ac.eval o).run P w) v h' n'\/(∃g args ts,o.op= .call ⟨.value g,args,ts⟩/\(JN s Y L g args.toList).run f t l h n= .ok v h' n')\/∃x nm args ts,o.op= .call ⟨.invoke x nm,args,ts⟩/\(uV P s L x nm args.toList).run f t l h n= .ok v h' n':=by
  rcases N8 e hT hL H with k|⟨_,k⟩|k
  .exact .inl (k.ok H)
  .exact .inl k
  .exact .inr k
 rcases agK with⟨bW,u,w',hr,hv,hR,hF⟩|⟨g,args,ts,ho,hc⟩|⟨x,nm,args,ts,ho,hc⟩
 .rcases hr with hr|⟨hr,rfl⟩<;>rw[hr]<;>exact hK bW _ w' hv hR hF
 .obtain⟨ga,g1,g2⟩:=aW (show aP ((co s L g).run t l) _= .ok v h' n' from hc)
  obtain⟨ar,g3,g4⟩:=aW g2;have hg:=bH g1 hT hL;have ha:=Da hT hL g3;split at g4
  .rename_i q cap
   obtain⟨vs,k1,k2⟩:=hg;rw[iZ]at g4;obtain⟨⟨fn,c,hq,hbd⟩,hcall⟩:=hf _ _ _ _ _ _ _ g4;replace hcall:=hcall θ w _ H (ha.append k1);have hsz:(List.map ac.eval args.toList++vs).toArray=args.map ac.eval++vs.toArray:=Array.toList_inj.1 (by simp);rw[hsz]at hcall;have hrun:(execOp ac.eval o).run P w= .ok (.enter q (args.map ac.eval++vs.toArray)) w:=by
    have hne:¬fn.name= "runtime.NumGoroutine":=by simpa using hP.2 _ _ hq
    simp[execOp,ho,resolve,k2,Deferred.ofValue,invoke,callFunc,hq,hbd,hne]
   rw[hrun];refine⟨λhd=>by simp[FR,Fence.wide]at hd,(nY r hcall).mono ?_⟩;rintro e2 w' ⟨bW,u,rfl,q1,q2,q3⟩;exact hK bW u w' q1 q2 q3
  .rename_i q
   obtain⟨r',c',hr,k2⟩:=hg;obtain⟨fn,tm,fT,body,k3,k4⟩:=hY _ _ _ _ _ _ _ g4 θ w _ r' c' H ha hr;have hsz:(List.map ac.eval args.toList).toArray=args.map ac.eval:=Array.toList_inj.1 (by simp);rw[hsz]at k3;have hrun:(execOp ac.eval o).run P w= .ok (.round r' fn tm fT body) w:=by
    simp[execOp,ho,resolve,k2,Deferred.ofValue,invoke,k3]
   rw[hrun];refine⟨λhd=>by simp[FR,Fence.wide]at hd,RoundIn.mono (show RoundIn (FR r) (m - 1) P r' fn tm fT body w _ from k4 (m - 1)) ?_⟩;rintro e2 w' ⟨bW,u,rfl,q1,q2,q3⟩;exact hK bW u w' q1 q2 q3
  .cases g4
 .unfold uV at hc
  dsimp only at hc;split at hc
  .rename_i ty v0 hx
   obtain⟨ar,g3,g4⟩:=aW hc;obtain⟨q,g5,g6⟩:=aW g4;obtain⟨u,ku,k2⟩:=bH hx hT hL;have ha:=Da hT hL g3;obtain⟨⟨fn,c,hq,hbd⟩,hcall⟩:=hf _ _ _ _ _ _ _ g6;replace hcall:=hcall θ w (u::List.map ac.eval args.toList) H ⟨u,_,ku,ha,rfl⟩;have hsz:(u::List.map ac.eval args.toList).toArray=#[u]++args.map ac.eval:=Array.toList_inj.1 (by simp);rw[hsz]at hcall;have hrun:(execOp ac.eval o).run P w= .ok (.enter q (#[u]++args.map ac.eval)) w:=by
    have hne:¬fn.name= "runtime.NumGoroutine":=by simpa using hP.2 _ _ hq
    have h0:(#[Value.iface ty u]++args.map ac.eval)[0]?=some (.iface ty u):=by rw[Array.getElem?_append_left (by simp)];rfl
    have hx:(#[Value.iface ty u]++args.map ac.eval).extract 1 (#[Value.iface ty u]++args.map ac.eval).size=args.map ac.eval:=Array.toList_inj.1 (by simp;exact List.take_of_length_le (by simp));simp only[execOp,ho,resolve,k2,invoke,Sem.run_bind,Sem.run_pure,Result.andThen_ok,h0,hx,callMethod];simp[Ho u g5,callFunc,hq,hbd,hne]
   rw[hrun];refine⟨λhd=>by simp[FR,Fence.wide]at hd,(nY r hcall).mono ?_⟩;rintro e2 w' ⟨bW,u,rfl,q1,q2,q3⟩;exact hK bW u w' q1 q2 q3
  .cases hc
end
end
section
section
variable {P:Program} {sl:FuncId->Sl} {θ:Th} {h h':AH} {n n':Nat} {w:World} {s:Sl} {L:List Tmp} {t t':Tr AV} {l:List AV} {ac:Act} {o:Oper} {f:FT} {v:AV} {Y:YT}
theorem Hq(k:Nat):∀(l:List Nat)(j:Nat),@List.rec Nat (λ_=>Nat->Option Nat) (λ_=>none) (λa _ ih j=>bc (Nat.beq k a) (some j) (ih (Nat.succ j))) l j=(@List.rec Nat (λ_=>Nat->Option Nat) (λ_=>none) (λa _ ih j=>bc (Nat.beq k a) (some j) (ih (Nat.succ j))) l 0).map (·+j)
 |[],_=>rfl
 |a::l,j=>by
  show bc (Nat.beq k a) (some j) _=(bc (Nat.beq k a) (some 0) _).map (·+j);cases Nat.beq k a with
  |true=>simp[bc]
  |false=>
   show@List.rec Nat (λ_=>Nat->Option Nat) (λ_=>none) (λa _ ih j=>bc (Nat.beq k a) (some j) (ih (Nat.succ j))) l (j+1)=Option.map (·+j) (@List.rec Nat (λ_=>Nat->Option Nat) (λ_=>none) (λa _ ih j=>bc (Nat.beq k a) (some j) (ih (Nat.succ j))) l 1);rw[Hq k l (j+1),Hq k l 1,Option.map_map];congr 1;funext x;simp;omega
theorem E_(k a:Nat)(l:List Nat):idx k (a::l)=if k=a then some 0 else(idx k l).map (·+1):=by
 show bc (Nat.beq k a) (some 0) _=_;by_cases hk:k=a
 .subst hk;rw[Nat.beq_refl,if_pos rfl];rfl
 .have:Nat.beq k a=false:=by
   cases e:Nat.beq k a with
   |false=>rfl
   |true=>exact absurd (Nat.eq_of_beq_eq_true e) hk
  rw[this,if_neg hk];exact Hq k l 1
theorem y8{tm:Array Value}{d k:Nat}{u:Value}(hd:d<tm.size):(tm.setIfInBounds d u)[k]?=if k=d then some u else tm[k]?:=by
 rw[Array.getElem?_setIfInBounds];by_cases hk:k=d
 .subst hk;simp[hd]
 .rw[if_neg (λe=>hk e.symm),if_neg hk]
theorem RT.put{u:Value}{d:Nat}(hT:RT s θ t ac.tmps)(hd:d+1<=s.N)(hv:aV θ v u)(hS:s.S d=true):RT s θ ((pp 20 d).run v t) (ac.tmps.setIfInBounds d u):=by
 have hsz:=hT.size;refine⟨by simpa using hT.size,λk a hk hg=>?_⟩;rw[jJ]at hg;rw[y8 (by omega)];by_cases e:k=d
 .rw[if_pos e]at hg⊢;cases hg;exact⟨u,rfl,hv⟩
 .rw[if_neg e]at hg⊢;exact hT.at_ k a hk hg
theorem RT.skip{u:Value}{d:Nat}(hT:RT s θ t ac.tmps)(hS:s.S d=false):RT s θ t (ac.tmps.setIfInBounds d u):=by
 refine⟨by simpa using hT.size,λk a hk hg=>?_⟩;have e:¬d=k:=λe=>by rw[e,hk]at hS;cases hS
 rw[Array.getElem?_setIfInBounds,if_neg e];exact hT.at_ k a hk hg
theorem LR.skip{u:Value}{d:Nat}(hL:LR s θ L l ac.tmps)(hS:s.S d=true):LR s θ L l (ac.tmps.setIfInBounds d u):=by
 intro k j a hk hi hj;have e:¬d=k:=λe=>by rw[e,hk]at hS;cases hS
 rw[Array.getElem?_setIfInBounds,if_neg e];exact hL k j a hk hi hj
theorem LR.push{u:Value}{d:Nat}(hL:LR s θ L l ac.tmps)(hd:d<ac.tmps.size)(hv:aV θ v u):LR s θ (d::L) (v::l) (ac.tmps.setIfInBounds d u):=by
 intro k j a hk hi hj;rw[E_]at hi;rw[y8 hd];by_cases e:k=d
 .rw[if_pos e]at hi⊢;cases hi;cases hj;exact⟨u,rfl,hv⟩
 .rw[if_neg e]at hi⊢
  cases hi2:idx k L with
  |none=>rw[hi2]at hi;cases hi
  |some q=>rw[hi2]at hi;cases hi;exact hL k q a hk hi2 hj
theorem N9{d:Option Tmp}{u:Value}{K:Tr AV->List AV->fJ}{x:Ex}{h1:AH}{n1:Nat}{t1:Tr AV}(e:(U8 s d).run t l v K= .ok x h1 n1 t1)(hT:RT s θ t ac.tmps)(hL:LR s θ L l ac.tmps)(hv:aV θ v u):
 ∃t2 l2,K t2 l2= .ok x h1 n1 t1/\RT s θ t2 (ac.put d u).tmps/\LR s θ (RY s d L) l2 (ac.put d u).tmps/\(ac.put d u).defers=ac.defers:=by
 cases d with
 |none=>exact⟨t,l,e,hT,hL,rfl⟩
 |some d=>
  cases hb:Nat.ble (Nat.succ d) (s.N)with
  |false=>
   have:(bc (Nat.ble (Nat.succ d) (s.N)) _ _:WK).run t l v K= .ok x h1 n1 t1:=e;rw[hb,gH]at this;cases this
  |true=>
   have e':(bc (Nat.ble (Nat.succ d) (s.N)) _ _:WK).run t l v K= .ok x h1 n1 t1:=e;rw[hb,bD]at e';have hd:d+1<=s.N:=Nat.le_of_ble_eq_true hb;cases hS:s.S d with
   |true=>
    rw[hS,bD]at e';refine⟨_,_,e',hT.put hd hv hS,?_,rfl⟩;show LR s θ (bc (s.S d) L (d::L)) l _;rw[hS];exact hL.skip hS
   |false=>
    rw[hS,gH]at e';refine⟨_,_,e',hT.skip hS,?_,rfl⟩;show LR s θ (bc (s.S d) L (d::L)) (v::l) _;rw[hS];exact hL.push (Nat.lt_of_lt_of_le hd hT.size) hv
theorem aV.N_{x:AV}{b:Bool}(hv:aV θ x (.bool b)):x= .b b:=by
 cases x with
 |b x=>cases hv;rfl
 |p x o=>obtain⟨r,c,_,e⟩:=hv;cases e
 |sl x a b c d=>obtain⟨r,c,_,_,e⟩:=hv;cases e
 |m x=>obtain⟨r,c,_,e⟩:=hv;cases e
 |f g c=>obtain⟨r,_,e⟩:=hv;cases e
 |y x=>obtain⟨r,c,_,e⟩:=hv;cases e
 |wI t x=>obtain⟨r,_,e⟩:=hv;cases e
 |agg l=>obtain⟨r,_,_,e⟩:=hv;cases e
 |bJ l=>obtain⟨r,_,e⟩:=hv;cases e
 |k c=>have e:Value.bool b=kv c:=hv;rcases u_ c with e'|e'|e'|e'|e'<;>rw[e']at e<;>cases e
 |i a b=>cases hv
 |s l=>cases hv
 |es a c=>obtain⟨_,_,e⟩:=hv;cases e
theorem Oa{ops:Array Oper}{g:Nat×Bool}{b:Bool}(ho:o.guard=some g)(e:(JR s L ops (some g)).run t l=some b)(hT:RT s θ t ac.tmps)(hL:LR s θ L l ac.tmps):Region.wanted o (yielded ops ac.tmps)=b:=by
 obtain⟨j,w0⟩:=g;simp only[JR]at e;simp only[Region.wanted,ho];split at e
 .rename_i d hd
  simp only at e;split at e
  .rename_i x hx
   obtain⟨u,h1,h2⟩:=G7 (show(Nj s L d).run t l=some (.b x)from hx) hT hL;cases h2;cases e
   have:yielded ops ac.tmps j=some x:=by simp[yielded,hd,h1]
   rw[this];cases w0<;>cases x<;>rfl
  .rename_i x hnb hx
   obtain⟨u,h1,h2⟩:=G7 (show(Nj s L d).run t l=some x from hx) hT hL;cases e
   have:yielded ops ac.tmps j=none:=by
    simp only[yielded,hd,Option.bind_some,h1];split
    .rename_i b hb;cases hb;exact absurd (aV.N_ h2) (λe0=>hnb b e0)
    .rfl
   rw[this];rfl
  .cases e
 .cases e
theorem Lm(a b:Nat):List.range' a (b+1)=a::List.range' (a+1) b:=rfl
theorem Dr(hP:sF P)(r:Option Nat)(m:Nat)(hf:Good P sl f)(hY:xY P sl Y f){ops:Array Oper}{Q:Exit->Act->World->Prop}:∀(lo:List Oper)(k:Nat){L:List Tmp}{l:List AV}{t:Tr AV}{θ:Th}{h:AH}{n:Nat}{w:World}{ac:Act}{x:Ex}{h':AH}{n':Nat}{t':Tr AV},
 (∀j,lo[j]?=ops[k+j]?)->(EP P s Y ops lo L).run f h n t l= .ok x h' n' t'->RT s θ t ac.tmps->LR s θ L l ac.tmps->RH P sl θ h n w->
 (∀bW a' w',x= .bX->RT s bW t' a'.tmps->a'.defers=ac.defers->RH P sl bW h' n' w'->Fr θ h w bW h' w'->Q .normal a' w')->wpOpsIn (FR r) m P ops Q (List.range' k lo.length) ac w
 |[],k,L,l,t,θ,h,n,w,ac,x,h',n',t',_,e,hT,_,H,hQ=>by
  cases e
  exact hQ θ ac w rfl hT rfl H (Fr.refl _ _ _)
 |o::lo,k,L,l,t,θ,h,n,w,ac,x,h',n',t',hl,e,hT,hL,H,hQ=>by
  have ho:ops[k]?=some o:=by rw[<-Nat.add_zero k,<-hl 0];rfl
  have hl':∀j,lo[j]?=ops[k+1+j]?:=λj=>by rw[show k+1+j=k+(j+1) by omega,<-hl (j+1)];rfl
  rw[List.length_cons,Lm];unfold wpOpsIn;simp only[ho]
  -- the operation is wanted
  have yes:nR ((cop P s Y L o).run f t l h n) (λv h n=>(U8 s o.dst).run t l v λt l=>(EP P s Y ops lo (RY s o.dst L)).run f h n t l)= .ok x h' n' t'->o.wpIn (FR r) m P ac w (wpOpsIn (FR r) m P ops Q (List.range' (k+1) lo.length)) Q:=by
   intro e;obtain⟨v,h1,n1,e1,e2⟩:=yZ e;refine U_ hP r m hf hY e1 hT hL H λbW u w' hv hR hF=>?_;obtain⟨t2,l2,e3,q1,q2,q3⟩:=N9 e2 (hT.mono hF.le) (hL.mono hF.le) hv;exact Dr hP r m hf hY lo (k+1) hl' e3 q1 q2 hR λCO a' w2 hx g1 g2 g3 g4=>hQ CO a' w2 hx g1 (g2.trans q3) g3 (hF.trans g4)
  cases hg:o.guard with
  |none=>
   have hw:Region.wanted o (yielded ops ac.tmps)=true:=by simp[Region.wanted,hg]
   rw[if_pos hw];have e':(@Option.rec (Nat×Bool) (λ_=>Cg) _ _ o.guard:Cg).run f h n t l= .ok x h' n' t':=e;rw[hg]at e';exact yes e'
  |some g=>
   have e':(@Option.rec (Nat×Bool) (λ_=>Cg) _ _ o.guard:Cg).run f h n t l= .ok x h' n' t':=e;rw[hg]at e';have e2:@Option.rec Bool (λ_=>fJ) fJ.bad (λb=>bc b _ _) ((JR s L ops (some g)).run t l)= .ok x h' n' t':=e';cases hb:(JR s L ops (some g)).run t l with
   |none=>rw[hb]at e2;cases e2
   |some b=>
    rw[hb]at e2;have hw:=Oa hg hb hT hL;cases b with
    |true=>rw[if_pos hw];exact yes e2
    |false=>
     rw[if_neg (by rw[hw];simp)];refine⟨λ_ _=>trivial,?_⟩;obtain⟨t2,l2,e3,q1,q2,q3⟩:=N9 (K:=λt l=>(EP P s Y ops lo (RY s o.dst L)).run f h n t l) e2 hT hL (show aV θ (.bJ []) undef from⟨[],rfl,rfl⟩);exact Dr hP r m hf hY lo (k+1) hl' e3 q1 q2 H λCO a' w2 hx g1 g2 g3 g4=>hQ CO a' w2 hx g1 (g2.trans q3) g3 g4
end
end
section
section
variable {α β:Type}
def Tr.Ob:Tr α->Tr α->Tr α
 | .z,b=>b
 | .nd l v r,.z=>.nd l v r
 | .nd l v r,.nd l' v' r'=>.nd (Ob l l') (v.or v') (Ob r r')
def Tr.dif:Tr α->Tr β->Tr α
 | .z,_=>.z
 | .nd l v r,.z=>.nd l v r
 | .nd l v r,.nd l' v' r'=>.nd (dif l l') (if v'.isSome then none else v) (dif r r')
theorem Tr.vk:∀(a b:Tr α)(x:Nat),(Tr.Ob a b).get x=(a.get x).or (b.get x)
 | .z,b,x=>by simp[Tr.Ob,Tr.iL]
 | .nd l v r,.z,x=>by simp[Tr.Ob,Tr.iL]
 | .nd l v r,.nd l' v' r',x=>by
  rw[Tr.Ob,Tr.eD,Tr.eD,Tr.eD,vk l l',vk r r'];split
  .rfl
  .split<;>rfl
theorem Tr.y9:∀(a:Tr α)(b:Tr β)(x:Nat),(Tr.dif a b).get x=if(b.get x).isSome then none else a.get x
 | .z,b,x=>by simp[Tr.dif,Tr.iL]
 | .nd l v r,.z,x=>by simp[Tr.dif,Tr.iL]
 | .nd l v r,.nd l' v' r',x=>by
  rw[Tr.dif,Tr.eD,Tr.eD,Tr.eD,y9 l l',y9 r r'];split
  .rfl
  .split<;>rfl
end
def Sub(g h:AH):Prop:=∀x o,g.get x=some o->h.get x=some o
theorem Sub.refl(h:AH):Sub h h:=λ_ _ e=>e
theorem Sub.z(h:AH):Sub .z h:=λx o e=>by rw[Tr.iL]at e;cases e
section
variable {P:Program} {sl:FuncId->Sl} {θ bW nZ:Th} {g h h' G h0:AH} {n n' n0:Nat} {w w' w0:World}
theorem Sub.isSome(h:Sub g G){x:Nat}(e:(g.get x).isSome):(G.get x).isSome:=by
 obtain⟨o,ho⟩:=Option.isSome_iff_exists.1 e;rw[h x o ho];rfl
theorem Sub.Bv(h:Sub g G){x:Nat}(e:Bv (g.get x)=true):Bv (G.get x)=true:=by
 obtain⟨o,ho⟩:=Option.isSome_iff_exists.1 (gM e);rw[h x o ho,<-ho];exact e
theorem Im.sub(s:Sub g G){k:Nat}(h:Im θ g k):Im θ G k:=let⟨x,c,h1,h2⟩:=h;⟨x,c,s.Bv h1,h2⟩
theorem Fr.part(F:Fr nZ h0 w0 θ G w)(s:Sub g G):Fr nZ h0 w0 θ g w:=
 ⟨F.os,F.tape,F.output,F.size,F.block,F.le,λk hk=>F.from_ k (hk.sub s),F.kind,F.low,λx f e=>F.ro x f (s x _ e)⟩
theorem RH.apart(H:RH P sl θ G n w)(s:Sub g G)(F:Fr θ g w bW h' w'){x:Nat}(hx:(G.get x).isSome)(hg:g.get x=none):h'.get x=none:=by
 cases e:h'.get x with
 |none=>rfl
 |some o=>
  exfalso;obtain⟨oG,hoG⟩:=Option.isSome_iff_exists.1 hx;obtain⟨r,c,ob,h1,h2,_⟩:=H.at_ x oG hoG;have h3:=F.le _ _ h1;cases hw:Bv (some o)with
  |false=>
   cases o with
   |ro f=>
    have e1:=F.ro x f e;rw[hg]at e1;cases e1
   |_=>cases hw
  |true=>
  rcases F.from_ r ⟨x,c,by rw[e];exact hw,h3⟩with⟨y,d,hy,hr⟩|hs
  .have:=H.inj x y r c d hx (s.isSome (gM hy)) h1 hr
   subst this;rw[hg]at hy;cases hy
  .have:=bK h2;omega
theorem RH.frame(H:RH P sl θ G n w)(s:Sub g G)(H':RH P sl bW h' n' w')(F:Fr θ g w bW h' w'):
 RH P sl bW (Tr.Ob h' (Tr.dif G g)) n' w'/\(Fr nZ h0 w0 θ G w->Fr nZ h0 w0 bW (Tr.Ob h' (Tr.dif G g)) w'):=by
 have hget:∀x,(Tr.Ob h' (Tr.dif G g)).get x=(h'.get x).or (if(g.get x).isSome then none else G.get x):=λx=>by rw[Tr.vk,Tr.y9]
 have hcase:∀x o,(Tr.Ob h' (Tr.dif G g)).get x=some o->h'.get x=some o\/(h'.get x=none/\g.get x=none/\G.get x=some o):=λx o e=>by
  rw[hget]at e;cases e1:h'.get x with
  |some o1=>rw[e1]at e;exact .inl e
  |none=>
   rw[e1]at e;cases e2:g.get x with
   |some _=>rw[e2]at e;cases e
   |none=>rw[e2]at e;exact .inr ⟨rfl,rfl,e⟩
 have wV:∀x o,g.get x=none->G.get x=some o->∃r c ob,θ x=some (r,c)/\w.heap[r]?=some ob/\w'.heap[r]?=some ob/\tV P sl θ c o ob/\¬Im θ g r:=λx o e1 e2=>by
  obtain⟨r,c,ob,h1,h2,h3⟩:=H.at_ x o e2;have hi:¬Im θ g r:=by
   rintro⟨y,d,hy,hr⟩;have:=H.inj x y r c d (by rw[e2];rfl) (s.isSome (gM hy)) h1 hr;subst this;rw[e1]at hy;cases hy
  exact⟨r,c,ob,h1,h2,(F.block r (bK h2) hi).trans h2,h3,hi⟩
 have gl:GL P bW (Tr.Ob h' (Tr.dif G g)) w':=λk e=>by
  obtain⟨ty,q,e1,e2⟩:=H'.gl k e;refine⟨ty,q,e1,λ⟨x,c,hx,hr⟩=>?_⟩;obtain⟨o,ho⟩:=Option.isSome_iff_exists.1 (gM hx);rcases hcase x o ho with a1|⟨_,a1,a2⟩
  .exact e2 ⟨x,c,by rw[a1,<-ho];exact hx,hr⟩
  .obtain⟨_,_,_,g2⟩:=H.gl k e
   obtain⟨r1,c1,_,h1,_⟩:=wV x o a1 a2;rw[F.le _ _ h1]at hr;cases hr;exact g2 ⟨x,c,by rw[a2,<-ho];exact hx,h1⟩
 refine⟨⟨λx o e=>?_,λx y r c d hx hy e1 e2=>?_,H'.new,gl⟩,λF0=>⟨F.os.trans F0.os,F.tape.trans F0.tape,F.output.trans F0.output,Nat.le_trans F0.size F.size,λk hk hn=>?_,F0.le.trans F.le,?_,λk r e=>?_,λx y e1 e2 e3=>?_,λx f e=>(hcase x _ e).elim (λe1=>F0.ro x f (s x _ (F.ro x f e1))) λe1=>F0.ro x f e1.2.2⟩⟩
 .rcases hcase x o e with e1|⟨_,e2,e3⟩
  .exact H'.at_ x o e1
  .obtain⟨r,c,ob,h1,_,h2,h3,_⟩:=wV x o e2 e3
   exact⟨r,c,ob,F.le _ _ h1,h2,tV.mono F.le h3⟩
 .obtain⟨ox,hox⟩:=Option.isSome_iff_exists.1 hx
  obtain⟨oy,hoy⟩:=Option.isSome_iff_exists.1 hy;have mixed:∀x y c d oy,(h'.get x).isSome->g.get y=none->G.get y=some oy->bW x=some (r,c)->bW y=some (r,d)->False:=λx y c d oy hx g1 g2 e1 e2=>by
   obtain⟨r',c',ob,h1,h2,_,_,h4⟩:=wV y oy g1 g2;rw[F.le _ _ h1]at e2;cases e2;obtain⟨ox,hox⟩:=Option.isSome_iff_exists.1 hx;cases hw:Bv (some ox)with
   |false=>
    cases ox with
    |ro f=>
     have e3:=F.ro x f hox;have hG:=s x _ e3;obtain⟨r2,c2,_,g3,_⟩:=H.at_ x _ hG;rw[F.le _ _ g3]at e1;cases e1;have:=H.inj x y _ _ _ (by rw[hG];rfl) (by rw[g2];rfl) g3 h1;subst this;rw[g1]at e3;cases e3
    |_=>cases hw
   |true=>
   rcases F.from_ r ⟨x,c,by rw[hox];exact hw,e1⟩with hi|hs
   .exact h4 hi
   .have:=bK h2;omega
  rcases hcase x ox hox with a1|⟨a0,a1,a2⟩<;>rcases hcase y oy hoy with b1|⟨b0,b1,b2⟩
  .exact H'.inj x y r c d (by rw[a1];rfl) (by rw[b1];rfl) e1 e2
  .exact(mixed x y c d oy (by rw[a1];rfl) b1 b2 e1 e2).elim
  .exact(mixed y x d c ox (by rw[b1];rfl) a1 a2 e2 e1).elim
  .obtain⟨r1,c1,_,h1,_⟩:=wV x ox a1 a2
   obtain⟨r2,c2,_,h2,_⟩:=wV y oy b1 b2;have f1:=F.le _ _ h1;have f2:=F.le _ _ h2;rw[f1]at e1;cases e1;rw[f2]at e2;cases e2;exact H.inj x y r c d (by rw[a2];rfl) (by rw[b2];rfl) h1 h2
 .refine(F.block k (Nat.lt_of_lt_of_le hk F0.size) λhi=>?_).trans (F0.block k hk hn)
  rcases F0.from_ k (hi.sub s)with e|e
  .exact hn e
  .omega
 .rintro k ⟨x,c,hx,e⟩
  obtain⟨o,ho⟩:=Option.isSome_iff_exists.1 (gM hx);rcases hcase x o ho with a1|⟨a0,a1,a2⟩
  .rcases F.from_ k ⟨x,c,by rw[a1,<-ho];exact hx,e⟩with hi|hs
   .exact F0.from_ k (hi.sub s)
   .exact .inr (Nat.le_trans F0.size hs)
  .obtain⟨r1,c1,_,h1,_⟩:=wV x o a1 a2
   rw[F.le _ _ h1]at e;cases e;exact F0.from_ k ⟨x,c,by rw[a2,<-ho];exact hx,h1⟩
 .obtain⟨r1,h1⟩:=F0.kind k r e
  exact F.kind k r1 h1
 .by_cases e:θ x=none
  .refine F.low x y e e2 λhy=>e3 ?_
   cases hq:nZ y with
   |none=>rfl
   |some q=>rw[F0.le _ _ hq]at hy;cases hy
  .exact F0.low x y e1 e e3
theorem RH.Si(H:RH P sl θ G n w){x:Nat}(hx:θ x=none)(hn:x<n)(c:Nat){o:AO}{obj:Obj}(hA:tV P sl θ c o obj)(ho:Bv (some o)=true:=by rfl):
 iH θ (θ.ins x (w.heap.size,c))/\RH P sl (θ.ins x (w.heap.size,c)) (G.set x o) n (w.alloc obj)/\
 (Fr nZ h0 w0 θ G w->(∀y,nZ y≠none->y<x)->Fr nZ h0 w0 (θ.ins x (w.heap.size,c)) (G.set x o) (w.alloc obj)):=by
 have hle:iH θ (θ.ins x (w.heap.size,c)):=λy q e=>by
  unfold Th.ins;rw[if_neg (λe1=>by rw[e1,hx]at e;cases e)];exact e
 have hG:G.get x=none:=by
  cases e:G.get x with
  |none=>rfl
  |some a=>obtain⟨r,c,_,h1,_⟩:=H.at_ x a e;rw[hx]at h1;cases h1
 have hget:∀y,(G.set x o).get y=if y=x then some o else G.get y:=λy=>iR _ _ _ _
 have hheap:∀k,(w.alloc obj).heap[k]?=if k=w.heap.size then some obj else w.heap[k]?:=λk=>by
  show(w.heap.push obj)[k]?=_;rw[Array.getElem?_push]
 have hins:∀y,y≠x->θ.ins x (w.heap.size,c) y=θ y:=λy hy=>by unfold Th.ins;rw[if_neg hy]
 have gl:GL P (θ.ins x (w.heap.size,c)) (G.set x o) (w.alloc obj):=λk e=>by
  obtain⟨ty,q,e1,e2⟩:=H.gl k e;have:=bK e1;refine⟨ty,q,by rw[hheap,if_neg (by omega)];exact e1,λ⟨y,d,hy,hr⟩=>?_⟩;rw[hget]at hy;by_cases hy1:y=x
  .rw[hy1,Th.dN]at hr;cases hr;omega
  .rw[if_neg hy1]at hy;rw[hins y hy1]at hr;exact e2 ⟨y,d,hy,hr⟩
 refine⟨hle,⟨λy a ha=>?_,λy z r c1 d1 hy hz e1 e2=>?_,λy hy=>?_,gl⟩,λF0 h0x=>⟨F0.os,F0.tape,F0.output,?_,λk hk hn=>?_,F0.le.trans hle,?_,λk r e=>?_,λy z e1 e2 e3=>?_,λy f e=>by
  rw[hget]at e;by_cases hy:y=x
  .rw[if_pos hy]at e;cases e;cases ho
  .rw[if_neg hy]at e;exact F0.ro y f e⟩⟩
 .rw[hget]at ha
  by_cases hy:y=x
  .subst hy;rw[if_pos rfl]at ha;cases ha
   exact⟨_,_,obj,Th.dN _ _ _,by rw[hheap,if_pos rfl],tV.mono hle hA⟩
  .rw[if_neg hy]at ha
   obtain⟨r,d,ob,h1,h2,h3⟩:=H.at_ y a ha;refine⟨r,d,ob,hle _ _ h1,?_,tV.mono hle h3⟩;rw[hheap,if_neg ?_];· exact h2
   rintro rfl;simp at h2
 .rw[hget]at hy hz
  have old:∀y d,y≠x->(G.get y).isSome->θ.ins x (w.heap.size,c) y=some (w.heap.size,d)->False:=λy d hy hs e=>by
   obtain⟨b,hb⟩:=Option.isSome_iff_exists.1 hs;obtain⟨r',d',ob,h1,h2,_⟩:=H.at_ y b hb;rw[hins y hy,h1]at e;cases e;simp at h2
  by_cases hy1:y=x
  .by_cases hz1:z=x
   .rw[hy1,hz1]
   .exfalso
    rw[hy1,Th.dN]at e1;cases e1;rw[if_neg hz1]at hz;exact old z _ hz1 hz e2
  .rw[if_neg hy1]at hy
   by_cases hz1:z=x
   .exfalso
    rw[hz1,Th.dN]at e2;cases e2;exact old y _ hy1 hy e1
   .rw[if_neg hz1]at hz
    rw[hins y hy1]at e1;rw[hins z hz1]at e2;exact H.inj y z r c1 d1 hy hz e1 e2
 .rw[hins y (by omega)];exact H.new y hy
 .show _<=(w.heap.push obj).size;have:=F0.size;simp;omega
 .rw[hheap,if_neg (by have:=F0.size;omega)];exact F0.block k hk hn
 .rintro k ⟨y,d,hy,e⟩
  rw[hget]at hy;by_cases hy1:y=x
  .rw[hy1,Th.dN]at e;cases e;exact .inr F0.size
  .rw[if_neg hy1]at hy;rw[hins y hy1]at e;exact F0.from_ k ⟨y,d,hy,e⟩
 .obtain⟨r1,h1⟩:=F0.kind k r e
  exact⟨r1,by rw[hheap,if_neg (by have:=bK h1;omega)];exact h1⟩
 .by_cases hy1:y=x
  .subst hy1;exact h0x z e3
  .rw[hins y hy1]at e2;exact F0.low y z e1 e2 e3
theorem RH.dummy(H:RH P sl θ h n w){k:Nat}:RH P sl (θ.ins (n+k) (0,0)) h (n+(k+1)) w/\Fr θ h w (θ.ins (n+k) (0,0)) h w:=by
 have hle:iH θ (θ.ins (n+k) (0,0)):=λy q e=>by
  have:=H.lt e;unfold Th.ins;rw[if_neg (by omega)];exact e
 have hins:∀y,y≠n+k->θ.ins (n+k) (0,0) y=θ y:=λy hy=>by unfold Th.ins;rw[if_neg hy]
 have hdom:∀y,(h.get y).isSome->y≠n+k:=λy hy e=>by
  obtain⟨o,ho⟩:=Option.isSome_iff_exists.1 hy;have:=H.dom ho;omega
 refine H.mkF (λx o e=>?_) (λx y r c d hx hy e1 e2=>?_) (λx hx=>?_) ⟨rfl,rfl,rfl,Nat.le_refl _,λ_ _ _=>rfl,hle,?_,λk r e=>⟨r,e⟩,λx y e1 e2 e3=>?_,λ_ _ e=>e⟩
 .obtain⟨r,c,ob,h1,h2,h3⟩:=H.at_ x o e
  exact⟨r,c,ob,hle _ _ h1,h2,tV.mono hle h3⟩
 .rw[hins x (hdom x hx)]at e1;rw[hins y (hdom y hy)]at e2
  exact H.inj x y r c d hx hy e1 e2
 .rw[hins x (by omega)];exact H.new x (by omega)
 .rintro k' ⟨x,c,hx,e⟩
  rw[hins x (hdom x (gM hx))]at e;exact .inl ⟨x,c,hx,e⟩
 .by_cases hx:x=n+k
  .subst hx
   rcases Nat.lt_or_ge y (n+k)with h1|h1
   .exact h1
   .exact absurd (H.new y (by omega)) e3
  .rw[hins x hx]at e2;exact absurd e1 e2
end
theorem bY{a b:Bool}(h:bc a b false=true):a=true/\b=true:=by cases a<;>cases b<;>first|exact⟨rfl,rfl⟩|cases h
theorem f_{α:Type}{p:α->Bool}:∀{l:List α},nT l p=true->∀a∈l,p a=true
 |[],_,a,h=>by cases h
 |b::l,e,a,h=>by
  obtain⟨h1,h2⟩:=bY (show bc (p b) (nT l p) false=true from e);rcases List.mem_cons.1 h with rfl|h
  .exact h1
  .exact f_ h2 a h
theorem n_{α:Type}{p:α->Bool}:∀{l:List α},(∀a∈l,p a=true)->nT l p=true
 |[],_=>rfl
 |b::l,h=>by
  show bc (p b) (nT l p) false=true;rw[h b (List.mem_cons_self ..),n_ λa ha=>h a (List.mem_cons_of_mem _ ha)];rfl
theorem jZ{a b:Bool}(h:yM a b=true)(ha:a=true):b=true:=by subst ha;exact h
theorem t_{a b:Bool}(h:a=true->b=true):yM a b=true:=by
 cases a;· rfl
 .exact h rfl
theorem rD{a b:Nat}:RZ a b=true↔a<b:=⟨λh=>Nat.le_of_ble_eq_true h,λh=>Nat.ble_eq_true_of_le h⟩
theorem og{a b:Nat}:Nat.ble a b=true↔a<=b:=⟨λh=>Nat.le_of_ble_eq_true h,λh=>Nat.ble_eq_true_of_le h⟩
theorem wW(m i:Nat):bit m i=m.testBit i:=by
 unfold bit Nat.testBit;have h:Nat.land (Nat.shiftRight m i) 1=(m >>> i)&&& 1:=rfl;rw[h,Nat.and_comm];have h2:=Nat.one_and_eq_mod_two (m >>> i);rw[h2];rcases Nat.mod_two_eq_zero_or_one (m >>> i)with e|e<;>rw[e]<;>rfl
theorem Oc{A:List Nat}{o:Oper}{i:Nat}(h:bit (K5 A o) i=true):∃e∈o.after.toList,Region.binds .any e=true/\(e.on=i\/bit (A.getD e.on 0) i=true):=by
 have key:∀(l:List Edge)(m:Nat),bit (l.foldl (λm e=>bc (Region.binds .any e) (Nat.lor (Nat.lor m (Nat.shiftLeft 1 e.on)) (A.getD e.on 0)) m) m) i=true->
  bit m i=true\/∃e∈l,Region.binds .any e=true/\(e.on=i\/bit (A.getD e.on 0) i=true):=by
  intro l;induction l with
  |nil=>intro m h;exact .inl h
  |cons e l ih=>
   intro m h;rcases ih _ h with h1|⟨e',h1,h2⟩
   .dsimp only at h1
    cases hb:Region.binds .any e with
    |false=>rw[hb]at h1;exact .inl h1
    |true=>
     rw[hb]at h1;replace h1:bit ((m|||(1<<<e.on))|||A.getD e.on 0) i=true:=h1;rw[wW,Nat.testBit_or,Nat.testBit_or]at h1;rw[Bool.or_eq_true,Bool.or_eq_true]at h1;rcases h1 with(h1|h1)|h1
     .exact .inl (by rw[wW];exact h1)
     .refine .inr ⟨e,List.mem_cons_self ..,hb,.inl ?_⟩
      rw[Nat.shiftLeft_eq,Nat.one_mul,Nat.testBit_two_pow]at h1;exact of_decide_eq_true h1
     .exact .inr ⟨e,List.mem_cons_self ..,hb,.inr (by rw[wW];exact h1)⟩
   .exact .inr ⟨e',List.mem_cons_of_mem _ h1,h2⟩
 rcases key _ _ h with h1|h1
 .rw[wW]at h1;simp at h1
 .exact h1
theorem J5:∀(ops:List Oper)(A:List Nat),∃B,ops.foldl (λA o=>A++[K5 A o]) A=A++B/\B.length=ops.length/\∀j o,ops[j]?=some o->(A++B)[A.length+j]?=some (K5 ((A++B).take (A.length+j)) o)
 |[],A=>⟨[],by simp,rfl,λj o h=>by simp at h⟩
 |o::ops,A=>by
  obtain⟨B,h1,h2,h3⟩:=J5 ops (A++[K5 A o]);refine⟨K5 A o::B,by rw[List.foldl_cons,h1];simp,by simp[h2],λj q hq=>?_⟩;cases j with
  |zero=>cases hq;simp
  |succ j=>
   have:=h3 j q hq;simp only[List.append_assoc,List.singleton_append,List.length_append,List.length_cons,List.length_nil]at this;rw[show A.length+(0+1)+j=A.length+(j+1) by omega]at this;exact this
theorem Od{ops:List Oper}{j i:Nat}(h:bit ((lI ops).getD j 0) i=true):∃o,ops[j]?=some o/\∃e∈o.after.toList,Region.binds .any e=true/\(e.on=i\/bit ((lI ops).getD e.on 0) i=true):=by
 obtain⟨B,h1,h2,h3⟩:=J5 ops [];have hA:lI ops=B:=by unfold lI;rw[h1];simp
 rw[hA]at h⊢;simp only[List.nil_append,List.length_nil,Nat.zero_add]at h3;cases hj:ops[j]? with
 |none=>
  have:B[j]?=none:=by rw[List.getElem?_eq_none_iff]at hj⊢;omega
  rw[List.getD_eq_getElem?_getD,this,wW]at h;simp at h
 |some o=>
  have hB:=h3 j o hj;rw[List.getD_eq_getElem?_getD,hB]at h;obtain⟨e,h4,h5,h6⟩:=Oc h;refine⟨o,rfl,e,h4,h5,h6.imp id λh7=>?_⟩;rw[List.getD_eq_getElem?_getD,List.getElem?_take]at h7;rw[List.getD_eq_getElem?_getD];split at h7
  .exact h7
  .rw[wW]at h7;simp at h7
end
section
def rv(V:Nat->AV):Nat->List AV
 |0=>[]
 |j+1=>V j::rv V j
theorem zR{V U:Nat->AV}:∀{j:Nat},(∀k,k<j->V k=U k)->rv V j=rv U j
 |0,_=>rfl
 |j+1,h=>by rw[rv,rv,h j (by omega),zR λk hk=>h k (by omega)]
theorem Dt{V:Nat->AV}:∀{i k:Nat},k<i->(rv V i)[i - 1 - k]?=some (V k)
 |0,k,h=>by omega
 |i+1,k,h=>by
  rw[rv];by_cases e:k=i
  .subst e;simp
  .rw[show i+1 - 1 - k=(i - 1 - k)+1 by omega,List.getElem?_cons_succ]
   exact Dt (by omega)
theorem J8{V:Nat->AV}{i:Nat}:∀{ks:List Nat}{l:List AV},(∀k∈ks,k<i)->(NR i ks).run (rv V i)=some l->l=ks.map V
 |[],l,_,e=>by cases e;rfl
 |k::ks,l,h,e=>by
  obtain⟨v,h1,h2⟩:=aB (show bnd ((EL (i - 1 - k)).run (rv V i)) (λv=>bnd ((NR i ks).run (rv V i)) λl=>some (v::l))=some l from e);obtain⟨l',h3,h4⟩:=aB h2;cases h4
  rw[jT,Dt (h k (List.mem_cons_self ..))]at h1;cases h1
  rw[J8 (λk hk=>h k (List.mem_cons_of_mem _ hk)) h3];rfl
theorem mX(op:Op):d_ op=0\/d_ op=1\/d_ op=2\/d_ op=3:=by
 unfold d_;split<;>simp
theorem lN{k:Nat}:∀{l:List Oper}{m j:Nat},j∈iT k l m↔∃i o,l[i]?=some o/\d_ o.op=k/\j=m+i
 |[],m,j=>by simp[iT]
 |o::l,m,j=>by
  have hc:j∈iT k (o::l) m↔(d_ o.op=k/\j=m)\/j∈iT k l (m+1):=by
   show j∈bc (Nat.beq (d_ o.op) k) (m::iT k l (m+1)) (iT k l (m+1))↔_;by_cases hk:d_ o.op=k
   .have h1:Nat.beq (d_ o.op) k=true:=by rw[hk];exact Nat.beq_refl _
    rw[h1,bD,List.mem_cons];simp[hk]
   .have h1:Nat.beq (d_ o.op) k=false:=by
     cases e:Nat.beq (d_ o.op) k with
     |false=>rfl
     |true=>exact absurd (Nat.eq_of_beq_eq_true e) hk
    rw[h1,gH];simp[hk]
  rw[hc,lN];constructor
  .rintro(⟨h1,rfl⟩|⟨i,q,h1,h2,rfl⟩)
   .exact⟨0,o,rfl,h1,rfl⟩
   .exact⟨i+1,q,h1,h2,by omega⟩
  .rintro⟨i,q,h1,h2,rfl⟩
   cases i with
   |zero=>cases h1;exact .inl ⟨h2,rfl⟩
   |succ i=>exact .inr ⟨i,q,h1,h2,by omega⟩
theorem J9:∀{l:List Oper}{m i:Nat}{d:Tmp},(i,d)∈wM l m↔∃k o,l[k]?=some o/\o.dst=some d/\i=m+k
 |[],m,i,d=>by simp[wM]
 |o::l,m,i,d=>by
  have hc:(i,d)∈wM (o::l) m↔(o.dst=some d/\i=m)\/(i,d)∈wM l (m+1):=by
   cases ho:o.dst with
   |none=>simp[wM,ho]
   |some d'=>
    rw[show wM (o::l) m=(m,d')::wM l (m+1) by simp[wM,ho],List.mem_cons];simp only[Prod.mk.injEq,Option.some.injEq];constructor
    .rintro(⟨rfl,rfl⟩|h)
     .exact .inl ⟨rfl,rfl⟩
     .exact .inr h
    .rintro(⟨rfl,rfl⟩|h)
     .exact .inl ⟨rfl,rfl⟩
     .exact .inr h
  rw[hc,J9];constructor
  .rintro(⟨h1,rfl⟩|⟨k,q,h1,h2,rfl⟩)
   .exact⟨0,o,rfl,h1,rfl⟩
   .exact⟨k+1,q,h1,h2,by omega⟩
  .rintro⟨k,q,h1,h2,rfl⟩
   cases k with
   |zero=>cases h1;exact .inl ⟨h2,rfl⟩
   |succ k=>exact .inr ⟨k,q,h1,h2,by omega⟩
theorem Fa{k:Nat}:∀{L:List Nat}{q:Nat},idx k L=some q->L[q]?=some k
 |[],q,e=>by cases e
 |a::L,q,e=>by
  rw[E_]at e;by_cases h:k=a
  .rw[if_pos h]at e;cases e;subst h;rfl
  .rw[if_neg h]at e
   cases e2:idx k L with
   |none=>rw[e2]at e;cases e
   |some q'=>rw[e2]at e;cases e;show(a::L)[q'+1]?=some k;rw[List.getElem?_cons_succ];exact Fa e2
theorem Hr{r:fH}{f:AV->AH->Nat->fH}{v:AV}{h:AH}{n:Nat}(e:RF r f= .ok v h n):∃v1 h1 n1,r= .ok v1 h1 n1/\f v1 h1 n1= .ok v h n:=by
 cases r with
 |bad=>cases e
 |ok v h n=>exact⟨v,h,n,rfl,e⟩
theorem vw{r:fH}{f:AV->AH->Nat->CZ}{h:AH}{n:Nat}{vs:List AV}{hs:List (Nat×AH)}(e:pF r f= .ok h n vs hs):∃v1 h1 n1,r= .ok v1 h1 n1/\f v1 h1 n1= .ok h n vs hs:=by
 cases r with
 |bad=>cases e
 |ok v h n=>exact⟨v,h,n,rfl,e⟩
noncomputable def J_ (W:List (Nat×Tmp))(A:List Nat)(ops:Array Oper)(j:Nat)(o:Oper):List (Nat×Tmp):=mU W A j (Bq ops.toList o)
section
variable (P:Program) (s:Sl) (Y:YT) (ops:Array Oper) (W:List (Nat×Tmp)) (A:List Nat) (f:FT) (t:Tr AV)
def yP(l:List AV)(j:Nat)(o:Oper)(x:Nat)(h:AH)(n:Nat)(v:AV)(h':AH)(n':Nat):Prop:=
 ∃b,(JR (kJ s W A j) ((J_ W A ops j o).map (·.2)) ops o.guard).run t l=some b/\
  (b=false->v= .bJ []/\h'=h/\n'=n)/\
  (b=true->
   (d_ o.op=0->∃h2 n2,(cop P (kJ s W A j) Y ((J_ W A ops j o).map (·.2)) o).run f t l .z 0= .ok v h2 n2/\h'=h/\n'=n)/\
   (d_ o.op=1->∃h2 n2,(cop P (kJ s W A j) Y ((J_ W A ops j o).map (·.2)) o).run f t l h 0= .ok v h2 n2/\h'=h/\n'=n)/\
   (d_ o.op=2->∃h2 ob,(cop P (kJ s W A j) Y ((J_ W A ops j o).map (·.2)) o).run f t l .z x= .ok v h2 (x+1)/\h2.get x=some ob/\h'=h.set x ob/\n'=n)/\
   (d_ o.op=3->(cop P (kJ s W A j) Y ((J_ W A ops j o).map (·.2)) o).run f t l h n= .ok v h' n'))
end
section
variable {P:Program} {s:Sl} {Y:YT} {ops:Array Oper} {W:List (Nat×Tmp)} {A:List Nat} {f:FT} {t:Tr AV}
theorem Du{b:Option Bool}{x y:fH}{v:AV}{h:AH}{n:Nat}(e:Gz b x y= .ok v h n):(b=some true/\x= .ok v h n)\/(b=some false/\y= .ok v h n):=by
 cases b with
 |none=>cases e
 |some b=>cases b with
  |true=>exact .inl ⟨rfl,e⟩
  |false=>exact .inr ⟨rfl,e⟩
theorem zS{V:Nat->AV}{i j:Nat}{o:Oper}{x:Nat}{h:AH}{n:Nat}{v:AV}{h':AH}{n':Nat}(e:(mV P s Y ops W A i j o).run f t x h n (rv V i)= .ok v h' n')(hi:∀k,bit (A.getD j 0) k=true->k<i):
 yP P s Y ops W A f t ((J_ W A ops j o).map (λx=>V x.1)) j o x h n v h' n':=by
 have hpk:∀l,(NR i ((J_ W A ops j o).map (·.1))).run (rv V i)=some l->l=(J_ W A ops j o).map (λx=>V x.1):=λl hl=>by
  have:=J8 (V:=V) (i:=i) (λk hk=>by
   obtain⟨y,hy,rfl⟩:=List.mem_map.1 hk;have hy2:y∈W.filter λx=>bc (bit (A.getD j 0) x.1) ((Bq ops.toList o).contains x.2) false:=hy;exact hi _ (bY (List.mem_filter.1 hy2).2).1) hl
  rw[this,List.map_map];rfl
 unfold mV at e;dsimp only at e;unfold yP;split at e
 .rename_i hk
  obtain⟨l,h1,h2⟩:=aW e;cases hpk l h1
  rcases Du h2 with⟨h3,h4⟩|⟨h3,h4⟩
  .obtain⟨v1,h5,n5,h6,h7⟩:=Hr h4
   cases h7
   exact⟨true,h3,by simp,λ_=>⟨λ_=>⟨_,_,h6,rfl,rfl⟩,λh=>(by rw[hk]at h;cases h),λh=>(by rw[hk]at h;cases h),λh=>(by rw[hk]at h;cases h)⟩⟩
  .cases h4;exact⟨false,h3,λ_=>⟨rfl,rfl,rfl⟩,by simp⟩
 .rename_i hk
  obtain⟨l,h1,h2⟩:=aW e;cases hpk l h1
  rcases Du h2 with⟨h3,h4⟩|⟨h3,h4⟩
  .obtain⟨v1,h5,n5,h6,h7⟩:=Hr h4
   cases h7
   exact⟨true,h3,by simp,λ_=>⟨λh=>(by rw[hk]at h;cases h),λ_=>⟨_,_,h6,rfl,rfl⟩,λh=>(by rw[hk]at h;cases h),λh=>(by rw[hk]at h;cases h)⟩⟩
  .cases h4;exact⟨false,h3,λ_=>⟨rfl,rfl,rfl⟩,by simp⟩
 .rename_i hk
  obtain⟨l,h1,h2⟩:=aW e;cases hpk l h1
  rcases Du h2 with⟨h3,h4⟩|⟨h3,h4⟩
  .obtain⟨v1,h5,n5,h6,h7⟩:=Hr h4
   obtain⟨h8,h9⟩:=jg h7;obtain⟨ob,h10,h11⟩:=aW h9;cases h11
   have:=beq_eq h8;subst this;exact⟨true,h3,by simp,λ_=>⟨λh=>(by rw[hk]at h;cases h),λh=>(by rw[hk]at h;cases h),λ_=>⟨_,_,h6,h10,rfl,rfl⟩,λh=>(by rw[hk]at h;cases h)⟩⟩
  .cases h4;exact⟨false,h3,λ_=>⟨rfl,rfl,rfl⟩,by simp⟩
 .rename_i hk0 hk1 hk2
  obtain⟨l,h1,h2⟩:=aW e;cases hpk l h1
  rcases Du h2 with⟨h3,h4⟩|⟨h3,h4⟩
  .exact⟨true,h3,by simp,λ_=>⟨λh=>absurd h hk0,λh=>absurd h hk1,λh=>absurd h hk2,λ_=>h4⟩⟩
  .cases h4;exact⟨false,h3,λ_=>⟨rfl,rfl,rfl⟩,by simp⟩
structure DS where
 h:AH
 n:Nat
 r:Nat
 hs:List (Nat×AH)
variable (P s Y ops W A f t)in
def Dv(E B:List Nat)(n0:Nat)(V:Nat->AV)(j:Nat)(o:Oper)(a b:DS):Prop:=
 (∃H h' n',(mV P s Y ops W A j j o).run f t (if d_ o.op=2 then n0+a.r else 0) H a.n (rv V j)= .ok (V j) h' n'/\
  ((d_ o.op=1/\b.h=a.h/\b.n=a.n/\((K6 E B A j=true/\H=a.h)\/∃q,a.hs.head?=some (q,H)))\/(d_ o.op≠1/\H=a.h/\b.h=h'/\b.n=n')))/\
 b.r=(if d_ o.op=2 then a.r+1 else a.r)/\b.hs=(if d_ o.op=3 then(j+1,b.h)::a.hs else a.hs)
theorem Fb{E B:List Nat}{n0:Nat}{h1:AH}{n1:Nat}{vs1:List AV}{hs1:List (Nat×AH)}:∀(l:List Oper)(j r:Nat)(h:AH)(n:Nat)(hs:List (Nat×AH))(V0:Nat->AV),(Bw P s Y ops W A E B l j r).run f t n0 h n (rv V0 j) hs= .ok h1 n1 vs1 hs1->
 ∃(V:Nat->AV)(D:Nat->DS),(∀k,k<j->V k=V0 k)/\D j=⟨h,n,r,hs⟩/\D (j+l.length)=⟨h1,n1,r+(iT 2 l j).length,hs1⟩/\vs1=rv V (j+l.length)/\∀k o,l[k]?=some o->Dv P s Y ops W A f t E B n0 V (j+k) o (D (j+k)) (D (j+k+1))
 |[],j,r,h,n,hs,V0,e=>by
  cases e
  exact⟨V0,λ_=>⟨_,_,r,_⟩,λ_ _=>rfl,rfl,rfl,rfl,λk o h=>by simp at h⟩
 |o::l,j,r,h,n,hs,V0,e=>by
  have e0:∃v H h' n' hb nb,(mV P s Y ops W A j j o).run f t (if d_ o.op=2 then n0+r else 0) H n (rv V0 j)= .ok v h' n'/\
   ((d_ o.op=1/\hb=h/\nb=n/\((K6 E B A j=true/\H=h)\/∃q,hs.head?=some (q,H)))\/(d_ o.op≠1/\H=h/\hb=h'/\nb=n'))/\
   (Bw P s Y ops W A E B l (j+1) (if d_ o.op=2 then r+1 else r)).run f t n0 hb nb (v::rv V0 j) (if d_ o.op=3 then(j+1,hb)::hs else hs)= .ok h1 n1 vs1 hs1/\(iT 2 (o::l) j).length=(if d_ o.op=2 then 1 else 0)+(iT 2 l (j+1)).length:=by
   have e1:(bc (Nat.beq (d_ o.op) 3) _ (bc (Nat.beq (d_ o.op) 2) _ (bc (Nat.beq (d_ o.op) 1) (bc (K6 E B A j) _ _) _)):Dk).run f t n0 h n (rv V0 j) hs= .ok h1 n1 vs1 hs1:=e;have e2:iT 2 (o::l) j=bc (Nat.beq (d_ o.op) 2) (j::iT 2 l (j+1)) (iT 2 l (j+1)):=rfl;rw[e2];rcases mX o.op with hk|hk|hk|hk
   .simp only[hk]at e1⊢
    obtain⟨v,h',n',g1,g2⟩:=vw e1;exact⟨v,h,h',n',h',n',g1,.inr ⟨by decide,rfl,rfl,rfl⟩,g2,by simp[bc,Nat.beq]⟩
   .simp only[hk]at e1⊢
    have e1:(bc (K6 E B A j) _ _:Dk).run f t n0 h n (rv V0 j) hs= .ok h1 n1 vs1 hs1:=e1;cases hr:K6 E B A j with
    |true=>
     rw[hr,bD]at e1;obtain⟨v,h',n',g1,g2⟩:=vw e1;exact⟨v,h,h',n',h,n,g1,.inl ⟨trivial,rfl,rfl,.inl ⟨rfl,rfl⟩⟩,g2,by simp[bc,Nat.beq]⟩
    |false=>
     rw[hr,gH]at e1;cases hs with
     |nil=>cases e1
     |cons x hs=>
      obtain⟨v,h',n',g1,g2⟩:=vw e1;exact⟨v,x.2,h',n',h,n,g1,.inl ⟨trivial,rfl,rfl,.inr ⟨x.1,rfl⟩⟩,g2,by simp[bc,Nat.beq]⟩
   .simp only[hk]at e1⊢
    obtain⟨v,h',n',g1,g2⟩:=vw e1;refine⟨v,h,h',n',h',n',g1,.inr ⟨by decide,rfl,rfl,rfl⟩,g2,?_⟩;simp[bc,Nat.beq];omega
   .simp only[hk]at e1⊢
    obtain⟨v,h',n',g1,g2⟩:=vw e1;exact⟨v,h,h',n',h',n',g1,.inr ⟨by decide,rfl,rfl,rfl⟩,g2,by simp[bc,Nat.beq]⟩
  obtain⟨v,H,h',n',hb,nb,g1,g0,g2,g3⟩:=e0;have hV:rv (λk=>if k=j then v else V0 k) (j+1)=v::rv V0 j:=by
   rw[rv,if_pos rfl];exact congrArg _ (zR λk hk=>if_neg (by omega))
  rw[<-hV]at g2;obtain⟨V,D,k1,k2,k3,k4,k5⟩:=Fb l (j+1) _ hb nb _ _ g2;have hVj:V j=v:=by rw[k1 j (by omega),if_pos rfl]
  have hVk:∀k,k<j->V k=V0 k:=λk hk=>by rw[k1 k (by omega),if_neg (by omega)]
  refine⟨V,λk=>if k=j then⟨h,n,r,hs⟩else D k,hVk,if_pos rfl,?_,?_,λk q hq=>?_⟩
  .dsimp only
   rw[if_neg (by simp),List.length_cons,show j+(l.length+1)=j+1+l.length by omega,k3,g3];congr 1;split<;>omega
  .rw[k4,List.length_cons,show j+(l.length+1)=j+1+l.length by omega]
  .cases k with
   |zero=>
    cases hq
    dsimp only;rw[Nat.add_zero,if_pos rfl,if_neg (by omega),k2];refine⟨⟨H,h',n',?_,g0⟩,rfl,rfl⟩;rw[hVj,zR hVk];exact g1
   |succ k=>
    dsimp only;rw[if_neg (by omega),if_neg (by omega)];have:=k5 k q hq
    rwa [show j+1+k=j+(k+1) by omega]at this
structure Va(s:Sl)(ops:Array Oper)(W:List (Nat×Tmp))(A:List Nat):Prop where
 anc:∀j i,bit (A.getD j 0) i=true->∃o,ops[j]?=some o/\∃e∈o.after,Region.binds .any e=true/\(e.on=i\/bit (A.getD e.on 0) i=true)
 edge:∀j o,ops[j]?=some o->∀e∈o.after,Region.binds .any e=true->e.on<j
 Oe:∀e o e' o',ops[e]?=some o->d_ o.op=3->ops[e']?=some o'->d_ o'.op=3->e<e'->bit (A.getD e' 0) e=true
 all:∀a o e' o',ops[a]?=some o->d_ o.op=2->ops[e']?=some o'->d_ o'.op=3->a<e'->bit (A.getD e' 0) a=true
 Bv:∀i d,(i,d)∈W↔∃o,ops[i]?=some o/\o.dst=some d
 bnd:∀(i:Nat)(o:Oper)(d:Tmp),ops[i]?=some o->o.dst=some d->d+1<=s.N
 uni:∀(i:Nat)(o:Oper)(j:Nat)(o':Oper)(d:Tmp),ops[i]?=some o->o.dst=some d->ops[j]?=some o'->o'.dst=some d->i=j
theorem WW(e:okS s ops (wM ops.toList 0) (lI ops.toList) (iT 3 ops.toList 0) (iT 2 ops.toList 0)=true):Va s ops (wM ops.toList 0) (lI ops.toList):=by
 unfold okS at e;obtain⟨e1,e⟩:=bY e;obtain⟨e2,e4⟩:=bY e;have hE:∀{k e o},ops[e]?=some o->d_ o.op=k->e∈iT k ops.toList 0:=λ{k e o} h1 h2=>lN.2 ⟨e,o,by rw[Array.getElem?_toList];exact h1,h2,by omega⟩;have hW:∀i d,(i,d)∈wM ops.toList 0↔∃o,ops[i]?=some o/\o.dst=some d:=λi d=>by
  rw[J9];constructor
  .rintro⟨k,o,h1,h2,rfl⟩;rw[Array.getElem?_toList]at h1;exact⟨o,by rw[Nat.zero_add];exact h1,h2⟩
  .rintro⟨o,h1,h2⟩;exact⟨i,o,by rw[Array.getElem?_toList];exact h1,h2,by omega⟩
 refine⟨λj i h=>?_,λj o ho e he hb=>?_,λa o e' o' h1 h2 h3 h4 h5=>?_,λa o e' o' h1 h2 h3 h4 h5=>?_,hW,λi o d h1 h2=>?_,λi o j o' d h1 h2 h3 h4=>?_⟩
 .obtain⟨o,h1,e,h2,h3⟩:=Od h
  rw[Array.getElem?_toList]at h1;exact⟨o,h1,e,by simpa using h2,h3⟩
 .have:=f_ e1 j (List.mem_range.2 (Array.getElem?_eq_some_iff.1 ho).1)
  rw[ho]at this;exact rD.1 (jZ (f_ this e (by simpa using he)) hb)
 .exact jZ (f_ (bY (f_ e2 e' (hE h3 h4))).1 a (hE h1 h2)) (rD.2 h5)
 .exact jZ (f_ (bY (f_ e2 e' (hE h3 h4))).2 a (hE h1 h2)) (rD.2 h5)
 .exact og.1 (bY (f_ e4 (i,d) ((hW i d).2 ⟨o,h1,h2⟩))).1
 .have:=jZ (f_ (bY (f_ e4 (i,d) ((hW i d).2 ⟨o,h1,h2⟩))).2 (j,d) ((hW j d).2 ⟨o',h3,h4⟩)) (Nat.beq_refl d)
  exact beq_eq this
theorem Va.back(K:Va s ops W A):∀j i,bit (A.getD j 0) i=true->i<j:=by
 intro j;induction j using Nat.strongRecOn with
 |ind j ih=>
  intro i h;obtain⟨o,h1,e,h2,h3,h4⟩:=K.anc j i h;have h5:=K.edge j o h1 e h2 h3;rcases h4 with rfl|h4
  .exact h5
  .exact Nat.lt_trans (ih _ h5 i h4) h5
end
mutual
theorem wX:∀(a b:AV),K7 a b=true->a=b
 | .b x,v,h=>by
  cases v with
  |b y=>cases x<;>cases y<;>first|rfl|cases h
  |_=>cases h
 | .i k n,v,h=>by
  cases v with
  |i k' n'=>
   obtain⟨h1,h2⟩:=bY h;rw[dz]at h2;have h1:decide (k=k')=true:=h1;rw[of_decide_eq_true h1,of_decide_eq_true h2]
  |_=>cases h
 | .s l,v,h=>by
  cases v with
  |s l'=>
   have h:sj l l'=true:=h;rw[jy]at h;rw[eq_of_beq h]
  |_=>cases h
 | .p x o,v,h=>by
  cases v with
  |p x' o'=>obtain⟨h1,h2⟩:=bY h;rw[beq_eq h1,beq_eq h2]
  |_=>cases h
 | .sl x l o n c,v,h=>by
  cases v with
  |sl x' l' o' n' c'=>
   cases c with
   |none=>
    cases c' with
    |none=>obtain⟨h1,h⟩:=bY h;obtain⟨h2,h⟩:=bY h;obtain⟨h3,h4⟩:=bY h;rw[beq_eq h1,beq_eq h2,beq_eq h3,beq_eq h4]
    |some c'=>cases h
   |some c=>
    cases c' with
    |none=>cases h
    |some c'=>obtain⟨h1,h⟩:=bY h;obtain⟨h2,h⟩:=bY h;obtain⟨h3,h⟩:=bY h;obtain⟨h4,h5⟩:=bY h;rw[beq_eq h1,beq_eq h2,beq_eq h3,beq_eq h4,beq_eq h5]
  |_=>cases c<;>cases h
 | .m x,v,h=>by
  cases v with
  |m y=>rw[beq_eq h]
  |_=>cases h
 | .f g l,v,h=>by
  cases v with
  |f g' l'=>obtain⟨h1,h2⟩:=bY h;rw[beq_eq h1,oh l l' h2]
  |_=>cases h
 | .y x,v,h=>by
  cases v with
  |y y=>rw[beq_eq h]
  |_=>cases h
 | .wI t u,v,h=>by
  cases v with
  |wI t' u'=>obtain⟨h1,h2⟩:=bY h;rw[beq_eq h1,wX u u' h2]
  |_=>cases h
 | .agg l,v,h=>by
  cases v with
  |agg l'=>rw[oh l l' h]
  |_=>cases h
 | .bJ l,v,h=>by
  cases v with
  |bJ l'=>rw[oh l l' h]
  |_=>cases h
 | .k c,v,h=>by
  cases v with
  |k c'=>rw[beq_eq h]
  |_=>cases h
 | .es a c,v,h=>by
  cases v with
  |es a' c'=>obtain⟨h1,h2⟩:=bY h;rw[of_decide_eq_true h1,beq_eq h2]
  |_=>cases h
theorem oh:∀(a b:List AV),wO a b=true->a=b
 |[],[],_=>rfl
 |[],_::_,h=>by cases h
 |_::_,[],h=>by cases h
 |a::l,b::r,h=>by
  obtain⟨h1,h2⟩:=bY (show bc (K7 a b) (wO l r) false=true by first|exact h|(rw[wO]at h;exact h));rw[wX a b h1,oh l r h2]
end
end
section
section
variable (P:Program) (s:Sl) (Y:YT) (ops:Array Oper) (W:List (Nat×Tmp)) (A:List Nat) (f:FT) (t:Tr AV)
def WX(l:List AV)(j:Nat)(o:Oper)(x:Nat)(h:AH)(n:Nat)(v:AV)(h':AH)(n':Nat)(oo:Option AO):Prop:=
 n'=n/\(((JR (kJ s W A j) ((J_ W A ops j o).map (·.2)) ops o.guard).run t l=some false/\oo=none/\v= .bJ []/\h'=h)\/
  ((JR (kJ s W A j) ((J_ W A ops j o).map (·.2)) ops o.guard).run t l=some true/\∃h2 ob,oo=some ob/\(cop P (kJ s W A j) Y ((J_ W A ops j o).map (·.2)) o).run f t l .z x= .ok v h2 (x+1)/\h2.get x=some ob/\h'=h.set x ob))
noncomputable def Sj (V:Nat->AV)(j:Nat)(o:Oper):List AV:=(J_ W A ops j o).map (λx=>V x.1)
structure mY(n0:Nat)(V:Nat->AV)(D:Nat->DS)(OB:Nat->Option AO)(K:Nat):Prop where
 op:∀j o,ops[j]?=some o->d_ o.op≠1->yP P s Y ops W A f t (Sj ops W A V j o) j o (n0+(D j).r) (D j).h (D j).n (V j) (D (j+1)).h (D (j+1)).n
 rd:∀j o,ops[j]?=some o->d_ o.op=1->(D (j+1)).h=(D j).h/\(D (j+1)).n=(D j).n
 ro:∀j o p,ops[j]?=some o->d_ o.op=1->(p=0\/∃e q,ops[e]?=some q/\d_ q.op=3/\p=e+1)->p<=j->(∀e q,ops[e]?=some q->d_ q.op=3->e<j->e<p)->
  ∃H h' n',yP P s Y ops W A f t (Sj ops W A V j o) j o 0 H (D j).n (V j) h' n'/\((K6 (iT 3 ops.toList 0) (iT 2 ops.toList 0) A j=true/\H=(D j).h)\/H=(D p).h)
 rk:∀j o,ops[j]?=some o->(D (j+1)).r=(if d_ o.op=2 then(D j).r+1 else(D j).r)
 al:∀j o,ops[j]?=some o->d_ o.op=2->WX P s Y ops W A f t (Sj ops W A V j o) j o (n0+(D j).r) (D j).h (D j).n (V j) (D (j+1)).h (D (j+1)).n (OB j)
 re:∀j o p,ops[j]?=some o->d_ o.op=1->(p=0\/∃e q,ops[e]?=some q/\d_ q.op=3/\p=e+1)->own (iT 3 ops.toList 0) j p=false->adm (iT 3 ops.toList 0) A j p=true->
  ∃h' n',yP P s Y ops W A f t (Sj ops W A V j o) j o 0 (D p).h 0 (V j) h' n'
 rN:(D ops.size).r=K
structure Inv(sl:FuncId->Sl)(n0:Nat)(V:Nat->AV)(D:Nat->DS)(OB:Nat->Option AO)(K:Nat)(nZ:Th)(h0:AH)(w0:World)(EH:Array Value)(listed:Array Bool)(p:Nat)(θ:Th)(tm:Array Value)(w:World):Prop where
 size:listed.size=ops.size
 dc:∀j,listed.getD j false=true->∀i,bit (A.getD j 0) i=true->listed.getD i false=true
 pN:p<=ops.size
 pE:p=0\/∃e q,ops[e]?=some q/\d_ q.op=3/\p=e+1
 Oe:∀e q,ops[e]?=some q->d_ q.op=3->(listed.getD e false=true↔e<p)
 t1:s.N<=tm.size
 t2:∀(i:Nat)(o:Oper)(d:Tmp),listed.getD i false=true->ops[i]?=some o->o.dst=some d->∃u,tm[d]?=some u/\aV θ (V i) u
 t3:∀(k:Tmp),(∀(i:Nat)(o:Oper),listed.getD i false=true->ops[i]?=some o->o.dst≠some k)->tm[k]?=EH[k]?
 G:∃G,RH P sl θ G (D p).n w/\Fr nZ h0 w0 θ G w/\Sub (D p).h G/\∀a o ob,ops[a]?=some o->d_ o.op=2->OB a=some ob->listed.getD a false=true->p<=a->G.get (n0+(D a).r)=some ob
 un:∀a o,ops[a]?=some o->d_ o.op=2->(listed.getD a false=false\/OB a=none)->θ (n0+(D a).r)=none
 fresh:∀a o,ops[a]?=some o->d_ o.op=2->p<=a->(D p).h.get (n0+(D a).r)=none
 dum:0<K->θ (n0+K)≠none
end
section
variable {P:Program} {sl:FuncId->Sl} {s:Sl} {Y:YT} {ops:Array Oper} {W:List (Nat×Tmp)} {A:List Nat} {f:FT} {t:Tr AV}
variable {n0:Nat} {V:Nat->AV} {D:Nat->DS} {OB:Nat->Option AO} {K:Nat} {nZ:Th} {h0:AH} {w0:World} {EH:Array Value} {listed:Array Bool} {p:Nat} {θ:Th} {tm:Array Value} {w:World}
theorem yP.aaG{l:List AV}{j:Nat}{o:Oper}{x:Nat}{h h':AH}{n n':Nat}{v:AV}(e:yP P s Y ops W A f t l j o x h n v h' n')(hk:d_ o.op=2):∃oo,WX P s Y ops W A f t l j o x h n v h' n' oo:=by
 obtain⟨b,h1,h2,h3⟩:=e;cases b with
 |false=>obtain⟨rfl,rfl,rfl⟩:=h2 rfl;exact⟨none,rfl,.inl ⟨h1,rfl,rfl,rfl⟩⟩
 |true=>
  obtain⟨h2,ob,h4,h5,rfl,rfl⟩:=(h3 rfl).2.2.1 hk;exact⟨some ob,rfl,.inr ⟨h1,_,ob,rfl,h4,h5,rfl⟩⟩
theorem dQ{j:Nat}{o:Oper}(e:ops[j]?=some o):j<ops.size:=(Array.getElem?_eq_some_iff.1 e).1
theorem kN{j:Nat}(e:j<ops.size):∃o,ops[j]?=some o:=⟨ops[j],Array.getElem?_eq_some_iff.2 ⟨e,rfl⟩⟩
section
variable (R:mY P s Y ops W A f t n0 V D OB K)
include R
theorem mY.mono:∀(d i:Nat),i+d<=ops.size->(D i).r<=(D (i+d)).r
 |0,_,_=>Nat.le_refl _
 |d+1,i,h=>by
  obtain⟨o,ho⟩:=kN (ops:=ops) (j:=i+d) (by omega);refine Nat.le_trans (mY.mono d i (by omega)) ?_;rw[show i+(d+1)=i+d+1 by omega,R.rk _ _ ho];split<;>omega
theorem mY.lt{i j:Nat}{o:Oper}(ho:ops[i]?=some o)(hk:d_ o.op=2)(h:i<j)(hj:j<=ops.size):(D i).r<(D j).r:=by
 have h1:=R.rk i o ho;rw[if_pos hk]at h1;have h2:=R.mono (j - (i+1)) (i+1) (by omega);rw[show i+1+(j - (i+1))=j by omega]at h2;omega
theorem mY.ltK{i:Nat}{o:Oper}(ho:ops[i]?=some o)(hk:d_ o.op=2):(D i).r<K:=by
 have:=R.lt ho hk (dQ ho) (Nat.le_refl _)
 rwa [R.rN]at this
theorem mY.ne{i j:Nat}{o o':Oper}(ho:ops[i]?=some o)(hk:d_ o.op=2)(ho':ops[j]?=some o')(hk':d_ o'.op=2)(h:i≠j):n0+(D i).r≠n0+(D j).r:=by
 rcases Nat.lt_or_gt_of_ne h with h|h
 .have:=R.lt ho hk h (Nat.le_of_lt (dQ ho'));omega
 .have:=R.lt ho' hk' h (Nat.le_of_lt (dQ ho));omega
theorem mY.step{j:Nat}{o:Oper}(ho:ops[j]?=some o)(hk:d_ o.op≠3):(D (j+1)).n=(D j).n/\((D (j+1)).h=(D j).h\/(d_ o.op=2/\∃ob,OB j=some ob/\(D (j+1)).h=(D j).h.set (n0+(D j).r) ob)):=by
 rcases mX o.op with h|h|h|h
 .obtain⟨b,_,h2,h3⟩:=R.op j o ho (by omega)
  cases b with
  |false=>obtain⟨_,e1,e2⟩:=h2 rfl;exact⟨e2,.inl e1⟩
  |true=>obtain⟨_,_,_,e1,e2⟩:=(h3 rfl).1 h;exact⟨e2,.inl e1⟩
 .obtain⟨e1,e2⟩:=R.rd j o ho h
  exact⟨e2,.inl e1⟩
 .obtain⟨h1,h2⟩:=R.al j o ho h
  rcases h2 with⟨_,_,_,h3⟩|⟨_,_,ob,h3,_,_,h4⟩
  .exact⟨h1,.inl h3⟩
  .exact⟨h1,.inr ⟨h,ob,h3,h4⟩⟩
 .exact absurd h hk
theorem mY.seg:∀(d p:Nat),p+d<=ops.size->(∀e q,ops[e]?=some q->d_ q.op=3->e<p+d->e<p)->
 (D (p+d)).n=(D p).n/\(∀G,Sub (D p).h G->(∀a o ob,ops[a]?=some o->d_ o.op=2->OB a=some ob->p<=a->a<p+d->G.get (n0+(D a).r)=some ob)->Sub (D (p+d)).h G)/\
 (∀x,(D p).h.get x=none->(∀a o,ops[a]?=some o->d_ o.op=2->p<=a->a<p+d->x≠n0+(D a).r)->(D (p+d)).h.get x=none)
 |0,p,_,_=>⟨rfl,λ_ h _=>h,λ_ h _=>h⟩
 |d+1,p,hN,hE=>by
  obtain⟨o,ho⟩:=kN (ops:=ops) (j:=p+d) (by omega);obtain⟨i1,i2,i3⟩:=mY.seg d p (by omega) λe q h1 h2 h3=>hE e q h1 h2 (by omega);have hk:d_ o.op≠3:=λhk=>by have:=hE _ o ho hk (by omega);omega
  obtain⟨s1,s2⟩:=R.step ho hk;rw[show p+(d+1)=p+d+1 by omega];refine⟨s1.trans i1,λG hG hal=>?_,λx hx hne=>?_⟩
  .have hb:=i2 G hG λa o ob h1 h2 h3 h4 h5=>hal a o ob h1 h2 h3 h4 (by omega)
   rcases s2 with s2|⟨k2,ob,k3,s2⟩
   .rw[s2];exact hb
   .rw[s2]
    intro x q hq;rw[iR]at hq;by_cases hx:x=n0+(D (p+d)).r
    .rw[if_pos hx]at hq;cases hq;rw[hx];exact hal _ o ob ho k2 k3 (by omega) (by omega)
    .rw[if_neg hx]at hq;exact hb x q hq
  .have hb:=i3 x hx λa o h1 h2 h3 h4=>hne a o h1 h2 h3 (by omega)
   rcases s2 with s2|⟨k2,ob,k3,s2⟩
   .rw[s2];exact hb
   .rw[s2,iR,if_neg (hne _ o ho k2 (by omega) (by omega))];exact hb
end
theorem dS{listed:Array Bool}{j i:Nat}(hj:j<listed.size):(listed.setIfInBounds j true).getD i false=true↔i=j\/listed.getD i false=true:=by
 by_cases h:i=j
 .subst h;simp[hj]
 .rw[getD_set_ne false (λe=>h e.symm)]
  simp[h]
structure Rdy(listed:Array Bool)(j:Nat)(o:Oper):Prop where
 ho:ops[j]?=some o
 lt:j<listed.size
 un:listed.getD j false=false
 an:∀i,bit (A.getD j 0) i=true->listed.getD i false=true
theorem Og(I:Inv P s ops A sl n0 V D OB K nZ h0 w0 EH listed p θ tm w)(K1:Va s ops W A){j:Nat}(h:j∈Region.ready .any ops listed):∃o,Rdy (ops:=ops) (A:=A) listed j o:=by
 obtain⟨h1,o,ho,h2⟩:=mem_ready.1 h;have hlt:j<listed.size:=by rw[I.size];exact dQ ho
 refine⟨o,ho,hlt,?_,λi hi=>?_⟩
 .rw[Array.getD_eq_getD_getElem?]at h1⊢
  rw[Array.getElem?_eq_getElem hlt]at h1⊢;exact h1
 .obtain⟨o',ho',e,he,hb,h3⟩:=K1.anc j i hi
  rw[ho]at ho';cases ho';have h4:=h2 e he hb;rcases h3 with rfl|h3
  .exact h4
  .exact I.dc _ h4 _ h3
section
variable (I:Inv P s ops A sl n0 V D OB K nZ h0 w0 EH listed p θ tm w) (K1:Va s ops W A) {j:Nat} {o:Oper} (J:Rdy (ops:=ops) (A:=A) listed j o)
include I K1 J
theorem Inv.frame(hT0:RT s nZ t EH)(hle:iH nZ θ):RT (kJ s W A j) θ t tm/\LR (kJ s W A j) θ ((J_ W A ops j o).map (·.2)) (Sj ops W A V j o) tm:=by
 refine⟨⟨I.t1,λk a hk hg=>?_⟩,λk q a _ hi hl=>?_⟩
 .obtain⟨hS,hw⟩:=bY (show bc (s.S k) (W.all λx=>bc (Nat.beq x.2 k) (bc (Nat.beq x.1 j) true (bit (A.getD x.1 0) j)) true) false=true from hk)
  obtain⟨u,h1,h2⟩:=hT0.at_ k a hS hg;refine⟨u,(I.t3 k λi o' hli hi hd=>?_).trans h1,aV.mono hle a h2⟩;have:=List.all_eq_true.1 hw (i,k) ((K1.Bv i k).2 ⟨o',hi,hd⟩);dsimp only at this;rw[Nat.beq_refl,bD]at this;cases hb:Nat.beq i j with
  |true=>rw[beq_eq hb,J.un]at hli;cases hli
  |false=>
   rw[hb,gH]at this;have:=I.dc i hli j this;rw[J.un]at this;cases this
 .have h1:=Fa hi
  rw[List.getElem?_map]at h1;unfold Sj at hl;rw[List.getElem?_map]at hl;cases hx:(J_ W A ops j o)[q]? with
  |none=>rw[hx]at h1;cases h1
  |some x=>
   rw[hx]at h1 hl;cases h1;cases hl
   have hm:x∈W.filter λx=>bc (bit (A.getD j 0) x.1) ((Bq ops.toList o).contains x.2) false:=List.mem_of_getElem? hx;obtain⟨m1,m2⟩:=List.mem_filter.1 hm;obtain⟨o',g1,g2⟩:=(K1.Bv x.1 x.2).1 m1;exact I.t2 x.1 o' x.2 (J.an _ (bY m2).1) g1 g2
theorem Inv.put{bW:Th}{a:Act}{u:Value}(ha:a.tmps=tm)(hle:iH θ bW)(hv:aV bW (V j) u):
 s.N<=(a.put o.dst u).tmps.size/\(∀(i:Nat)(q:Oper)(d:Tmp),(listed.setIfInBounds j true).getD i false=true->ops[i]?=some q->q.dst=some d->∃u',(a.put o.dst u).tmps[d]?=some u'/\aV bW (V i) u')/\
 (∀(k:Tmp),(∀(i:Nat)(q:Oper),(listed.setIfInBounds j true).getD i false=true->ops[i]?=some q->q.dst≠some k)->(a.put o.dst u).tmps[k]?=EH[k]?):=by
 have old:∀(i:Nat)(q:Oper)(d:Tmp),listed.getD i false=true->ops[i]?=some q->q.dst=some d->∃u',tm[d]?=some u'/\aV bW (V i) u':=λi q d h1 h2 h3=>let⟨u',g1,g2⟩:=I.t2 i q d h1 h2 h3;⟨u',g1,aV.mono hle _ g2⟩
 cases hd:o.dst with
 |none=>
  have hp:(a.put none u).tmps=tm:=ha;rw[hp];refine⟨I.t1,λi q d h1 h2 h3=>?_,λk h=>I.t3 k λi q h1 h2=>h i q ((dS J.lt).2 (.inr h1)) h2⟩;rcases(dS J.lt).1 h1 with rfl|h1
  .rw[J.ho]at h2;cases h2;rw[hd]at h3;cases h3
  .exact old i q d h1 h2 h3
 |some d0=>
  have hp:(a.put (some d0) u).tmps=tm.setIfInBounds d0 u:=by rw[<-ha];rfl
  have hlt:d0<tm.size:=Nat.lt_of_lt_of_le (K1.bnd j o d0 J.ho hd) I.t1;rw[hp];refine⟨by simpa using I.t1,λi q d h1 h2 h3=>?_,λk h=>?_⟩
  .rw[y8 hlt]
   rcases(dS J.lt).1 h1 with rfl|h1
   .rw[J.ho]at h2;cases h2;rw[hd]at h3;cases h3
    exact⟨u,if_pos rfl,hv⟩
   .rw[if_neg ?_]
    .exact old i q d h1 h2 h3
    .rintro rfl
     have:=K1.uni i q j o d h2 h3 J.ho hd;rw[this,J.un]at h1;cases h1
  .rw[y8 hlt,if_neg ?_]
   .exact I.t3 k λi q h1 h2=>h i q ((dS J.lt).2 (.inr h1)) h2
   .rintro rfl
    exact h j o ((dS J.lt).2 (.inl rfl)) J.ho hd
theorem Inv.dc':∀i,(listed.setIfInBounds j true).getD i false=true->∀k,bit (A.getD i 0) k=true->(listed.setIfInBounds j true).getD k false=true:=λi h k hk=>by
 rcases(dS J.lt).1 h with rfl|h
 .exact(dS J.lt).2 (.inr (J.an k hk))
 .exact(dS J.lt).2 (.inr (I.dc i h k hk))
theorem Inv.quiet{a:Act}{u:Value}(ha:a.tmps=tm)(hk:d_ o.op=0\/d_ o.op=1\/(d_ o.op=2/\OB j=none))(hv:aV θ (V j) u):
 Inv P s ops A sl n0 V D OB K nZ h0 w0 EH (listed.setIfInBounds j true) p θ (a.put o.dst u).tmps w:=by
 obtain⟨p1,p2,p3⟩:=I.put K1 J ha (iH.refl _) hv;refine⟨by simpa using I.size,I.dc' K1 J,I.pN,I.pE,λe q h1 h2=>?_,p1,p2,p3,?_,λb q h1 h2 h3=>?_,I.fresh,I.dum⟩
 .rw[dS J.lt,<-I.Oe e q h1 h2]
  refine⟨λh=>h.resolve_left λh=>?_,.inr⟩;subst h;rw[J.ho]at h1;cases h1;omega
 .obtain⟨G,g1,g2,g3,g4⟩:=I.G
  refine⟨G,g1,g2,g3,λb q ob h1 h2 h3 h4 h5=>?_⟩;rcases(dS J.lt).1 h4 with rfl|h4
  .rw[J.ho]at h1;cases h1
   rcases hk with hk|hk|⟨_,hk⟩
   .omega
   .omega
   .rw[hk]at h3;cases h3
  .exact g4 b q ob h1 h2 h3 h4 h5
 .refine I.un b q h1 h2 (h3.imp (λh=>?_) id)
  cases e:listed.getD b false with
  |false=>rfl
  |true=>rw[(dS J.lt).2 (.inr e)]at h;cases h
end
section
variable (R:mY P s Y ops W A f t n0 V D OB K) (I:Inv P s ops A sl n0 V D OB K nZ h0 w0 EH listed p θ tm w) (K1:Va s ops W A) {j:Nat} {o:Oper} (J:Rdy (ops:=ops) (A:=A) listed j o)
include R I K1 J
theorem Inv.laid{a:Act}{u:Value}{ob:AO}{obj:Obj}{c:Nat}(ha:a.tmps=tm)(Ht:∀y,nZ y≠none->y<n0)(hk:d_ o.op=2)(hOB:OB j=some ob)(hA:tV P sl θ c ob obj)(hv:aV (θ.ins (n0+(D j).r) (w.heap.size,c)) (V j) u)(ho:Bv (some ob)=true):
 Inv P s ops A sl n0 V D OB K nZ h0 w0 EH (listed.setIfInBounds j true) p (θ.ins (n0+(D j).r) (w.heap.size,c)) (a.put o.dst u).tmps (w.alloc obj):=by
 have hun:=I.un j o J.ho hk (.inl J.un);obtain⟨G,g1,g2,g3,g4⟩:=I.G;have hK:0<K:=by have:=R.ltK J.ho hk;omega
 have hn:n0+(D j).r<(D p).n:=by
  have h1:n0+K<(D p).n:=by
   rcases Nat.lt_or_ge (n0+K) (D p).n with h|h
   .exact h
   .exact absurd (g1.new _ h) (I.dum hK)
  have:=R.ltK J.ho hk;omega
 obtain⟨hle,a1,a2⟩:=g1.Si (nZ:=nZ) (h0:=h0) (w0:=w0) hun hn c hA ho;obtain⟨p1,p2,p3⟩:=I.put K1 J ha hle hv;have hget:∀y,(G.set (n0+(D j).r) ob).get y=if y=n0+(D j).r then some ob else G.get y:=λy=>iR _ _ _ _
 have hins:∀y,y≠n0+(D j).r->θ.ins (n0+(D j).r) (w.heap.size,c) y=θ y:=λy hy=>by unfold Th.ins;rw[if_neg hy]
 refine⟨by simpa using I.size,I.dc' K1 J,I.pN,I.pE,λe q h1 h2=>?_,p1,p2,p3,⟨_,a1,a2 g2 λy hy=>by have:=Ht y hy;omega,λx q hx=>?_,λb q ob' h1 h2 h3 h4 h5=>?_⟩,λb q h1 h2 h3=>?_,I.fresh,λh=>?_⟩
 .rw[dS J.lt,<-I.Oe e q h1 h2]
  refine⟨λh=>h.resolve_left λh=>?_,.inr⟩;subst h;rw[J.ho]at h1;cases h1;omega
 .rw[hget,if_neg]
  .exact g3 x q hx
  .rintro rfl
   obtain⟨_,_,_,h1,_⟩:=g1.at_ _ _ (g3 _ _ hx);rw[hun]at h1;cases h1
 .rw[hget]
  by_cases hb:b=j
  .subst hb;rw[hOB]at h3;cases h3;rw[if_pos rfl]
  .rw[if_neg (R.ne h1 h2 J.ho hk hb)]
   exact g4 b q ob' h1 h2 h3 (((dS J.lt).1 h4).resolve_left hb) h5
 .by_cases hb:b=j
  .subst hb
   rcases h3 with h3|h3
   .rw[(dS J.lt).2 (.inl rfl)]at h3;cases h3
   .rw[hOB]at h3;cases h3
  .rw[hins _ (R.ne h1 h2 J.ho hk hb)]
   refine I.un b q h1 h2 (h3.imp (λh=>?_) id);cases e:listed.getD b false with
   |false=>rfl
   |true=>rw[(dS J.lt).2 (.inr e)]at h;cases h
 .rw[hins _ (by have:=R.ltK J.ho hk;omega)];exact I.dum h
theorem Inv.ahead(hk:d_ o.op=3):p<=j/\(∀e q,ops[e]?=some q->d_ q.op=3->e<j->e<p)/\(D j).n=(D p).n/\
 ∃G,RH P sl θ G (D j).n w/\Fr nZ h0 w0 θ G w/\Sub (D j).h G/\∀a o ob,ops[a]?=some o->d_ o.op=2->OB a=some ob->listed.getD a false=true->j<a->G.get (n0+(D a).r)=some ob/\(D j).h.get (n0+(D a).r)=none:=by
 have hp:p<=j:=by
  rcases Nat.lt_or_ge j p with h|h
  .have:=(I.Oe j o J.ho hk).2 h
   rw[J.un]at this;cases this
  .exact h
 have hE:∀e q,ops[e]?=some q->d_ q.op=3->e<j->e<p:=λe q h1 h2 h3=>(I.Oe e q h1 h2).1 (J.an e (K1.Oe e q j o h1 h2 J.ho hk h3));have hj:=dQ J.ho;have Lp:p+(j - p)=j:=by omega
 obtain⟨s1,s2,s3⟩:=R.seg (j - p) p (by omega) (by rw[Lp];exact hE);rw[Lp]at s1 s2 s3;obtain⟨G,g1,g2,g3,g4⟩:=I.G;refine⟨hp,hE,s1,G,by rw[s1];exact g1,g2,s2 G g3 λa q ob h1 h2 h3 h4 h5=>g4 a q ob h1 h2 h3 (J.an a (K1.all a q j o h1 h2 J.ho hk h5)) h4,λa q ob h1 h2 h3 h4 h5=>⟨g4 a q ob h1 h2 h3 h4 (by omega),?_⟩⟩;exact s3 _ (I.fresh a q h1 h2 (by omega)) λb q' k1 k2 k3 k4=>R.ne h1 h2 k1 k2 (by omega)
theorem Inv.effect{a:Act}{u:Value}{bW:Th}{w':World}{G:AH}(ha:a.tmps=tm)(hk:d_ o.op=3)(hle:iH θ bW)
 (hG:RH P sl bW G (D (j+1)).n w')(hF:Fr nZ h0 w0 bW G w')(hS:Sub (D (j+1)).h G)(hAl:∀a o ob,ops[a]?=some o->d_ o.op=2->OB a=some ob->listed.getD a false=true->j<a->G.get (n0+(D a).r)=some ob/\(D (j+1)).h.get (n0+(D a).r)=none)
 (hUn:∀a o,ops[a]?=some o->d_ o.op=2->θ (n0+(D a).r)=none->bW (n0+(D a).r)=none)(hv:aV bW (V j) u):
 Inv P s ops A sl n0 V D OB K nZ h0 w0 EH (listed.setIfInBounds j true) (j+1) bW (a.put o.dst u).tmps w':=by
 obtain⟨p1,p2,p3⟩:=I.put K1 J ha hle hv;obtain⟨hp,hE,_⟩:=I.ahead R K1 J hk;have hun:∀b q,ops[b]?=some q->d_ q.op=2->((listed.setIfInBounds j true).getD b false=false\/OB b=none)->bW (n0+(D b).r)=none:=λb q h1 h2 h3=>by
  refine hUn b q h1 h2 (I.un b q h1 h2 (h3.imp (λh=>?_) id));cases e:listed.getD b false with
  |false=>rfl
  |true=>rw[(dS J.lt).2 (.inr e)]at h;cases h
 refine⟨by simpa using I.size,I.dc' K1 J,dQ J.ho,.inr ⟨j,o,J.ho,hk,rfl⟩,λe q h1 h2=>?_,p1,p2,p3,⟨G,hG,hF,hS,λb q ob h1 h2 h3 h4 h5=>?_⟩,hun,λb q h1 h2 h3=>?_,λh h'=>?_⟩
 .rw[dS J.lt]
  constructor
  .rintro(rfl|h)
   .omega
   .have:=(I.Oe e q h1 h2).1 h;omega
  .intro h
   by_cases he:e=j
   .exact .inl he
   .exact .inr ((I.Oe e q h1 h2).2 (hE e q h1 h2 (by omega)))
 .refine(hAl b q ob h1 h2 h3 (((dS J.lt).1 h4).resolve_left ?_) (by omega)).1
  rintro rfl;rw[J.ho]at h1;cases h1;omega
 .cases e:(D (j+1)).h.get (n0+(D b).r)with
  |none=>rfl
  |some ob'=>
   exfalso;obtain⟨_,_,_,k1,_⟩:=hG.at_ _ _ (hS _ _ e);cases hl:listed.getD b false with
   |false=>
    rw[hun b q h1 h2 (.inl ?_)]at k1;· cases k1
    cases e2:(listed.setIfInBounds j true).getD b false with
    |false=>rfl
    |true=>
     rcases(dS J.lt).1 e2 with rfl|e3
     .rw[J.ho]at h1;cases h1;omega
     .rw[hl]at e3;cases e3
   |true=>
    cases hob:OB b with
    |none=>rw[hun b q h1 h2 (.inr hob)]at k1;cases k1
    |some ob=>
     have:=(hAl b q ob h1 h2 hob hl (by omega)).2;rw[this]at e;cases e
 .have h1:=I.dum h
  cases e:θ (n0+K)with
  |none=>exact h1 e
  |some q=>rw[hle _ _ e]at h';cases h'
end
end
end
section
section
variable {P:Program} {sl:FuncId->Sl} {s:Sl} {Y:YT} {ops:Array Oper} {W:List (Nat×Tmp)} {A:List Nat} {f:FT} {t:Tr AV}
variable {n0:Nat} {V:Nat->AV} {D:Nat->DS} {OB:Nat->Option AO} {K:Nat} {nZ:Th} {h0:AH} {w0:World} {EH:Array Value} {listed:Array Bool} {p:Nat} {θ:Th} {w:World}
theorem yP.name{l:List AV}{j:Nat}{o:Oper}{x x':Nat}{h h':AH}{n n':Nat}{v:AV}(e:yP P s Y ops W A f t l j o x h n v h' n')(hx:d_ o.op=2->x=x'):yP P s Y ops W A f t l j o x' h n v h' n':=by
 obtain⟨b,h1,h2,h3⟩:=e;exact⟨b,h1,h2,λhb=>⟨(h3 hb).1,(h3 hb).2.1,λhk=>by rw[<-hx hk];exact(h3 hb).2.2.1 hk,(h3 hb).2.2.2⟩⟩
theorem mZ{L:List Tmp}{l:List AV}{o:Oper}{ac:Act}{b:Bool}(e:(JR s L ops o.guard).run t l=some b)(hT:RT s θ t ac.tmps)(hL:LR s θ L l ac.tmps):Region.wanted o (yielded ops ac.tmps)=b:=by
 cases hg:o.guard with
 |none=>
  rw[hg]at e;have e:some true=some b:=e;cases e
  simp[Region.wanted,hg]
 |some g=>rw[hg]at e;exact Oa hg e hT hL
theorem vC{F:Fence}{m:Nat}{Q:Exit->Act->World->Prop}{j:Nat}{o:Oper}{ac:Act}{b:Bool}{Kp:Act->World->Prop}(ho:ops[j]?=some o)(hb:Region.wanted o (yielded ops ac.tmps)=b)(hF:∀f,F.fn f)
 (h0:b=false->Kp (ac.put o.dst undef) w)(h1:b=true->o.wpIn F m P ac w Kp Q):wpOpIn F m P ops Q j Kp ac w:=by
 unfold wpOpIn;simp only[ho];cases b with
 |false=>rw[if_neg (by rw[hb];simp)];exact⟨λf _=>hF f,h0 rfl⟩
 |true=>rw[if_pos hb];exact h1 rfl
theorem zT{r:Option Nat}{m:Nat}{Q:Exit->Act->World->Prop}{o:Oper}{ac:Act}{u:Value}{w':World}{Kp:Act->World->Prop}(hd:∀c,o.op≠ .defer c)(hr:(execOp ac.eval o).run P w= .ok (.value u) w')(hK:Kp (ac.put o.dst u) w'):o.wpIn (FR r) m P ac w Kp Q:=by
 refine⟨λ_ _=>trivial,?_⟩;have WV:o.semAt (FR r).round ac.eval=execOp ac.eval o:=by
  unfold Oper.semAt;split
  .exact absurd ‹_› (hd _)
  .rfl
 rw[WV,hr];exact hK
theorem WY(hP:sF P)(r:Option Nat)(m:Nat)(hf:Good P sl f)(hY:xY P sl Y f)(R:mY P s Y ops W A f t n0 V D OB K){ac:Act}(I:Inv P s ops A sl n0 V D OB K nZ h0 w0 EH listed p θ ac.tmps w)(K1:Va s ops W A)(hT0:RT s nZ t EH)(Ht:∀y,nZ y≠none->y<n0)
 {j:Nat}{o:Oper}(J:Rdy (ops:=ops) (A:=A) listed j o){Q:Exit->Act->World->Prop}{Kp:Act->World->Prop}
 (hK:∀p' bW a' w',Inv P s ops A sl n0 V D OB K nZ h0 w0 EH (listed.setIfInBounds j true) p' bW a'.tmps w'->a'.defers=ac.defers->Kp a' w'):wpOpIn (FR r) m P ops Q j Kp ac w:=by
 obtain⟨G,g1,g2,g3,g4⟩:=id I.G;obtain⟨hT,hL⟩:=I.frame K1 J hT0 g2.le;have hF:∀f',(FR r).fn f':=λ_=>trivial;have hput:∀u,(ac.put o.dst u).defers=ac.defers:=λu=>by cases o.dst<;>rfl
 have Sk:aV θ (.bJ []) undef:=⟨[],rfl,rfl⟩;rcases mX o.op with hk|hk|hk|hk
 .obtain⟨b,e1,e2,e3⟩:=R.op j o J.ho (by omega)
  refine vC J.ho (mZ e1 hT hL) hF (λhb=>?_) (λhb=>?_)
  .obtain⟨hv,_⟩:=e2 hb
   exact hK p θ _ w (I.quiet K1 J rfl (.inl hk) (by rw[hv];exact Sk)) (hput _)
  .obtain⟨h2,n2,k1,_⟩:=(e3 hb).1 hk
   obtain⟨u,k2,k3⟩:=B_ (.inl hk) k1 hT hL (g1.sub (Sub.z G));exact zT (lM k1) k2 (hK p θ _ w (I.quiet K1 J rfl (.inl hk) k3) (hput _))
 .have key:∃H h' n',Sub H G/\yP P s Y ops W A f t (Sj ops W A V j o) j o (n0+(D j).r) H (D j).n (V j) h' n':=by
   cases ow:own (iT 3 ops.toList 0) j p with
   |true=>
    obtain⟨o1,o2⟩:=bY (show bc (Nat.ble p j) (calm (iT 3 ops.toList 0) p j) false=true from ow);have Lp:p+(j - p)=j:=by have:=og.1 o1;omega
    have hE:∀e q,ops[e]?=some q->d_ q.op=3->e<j->e<p:=λe q h1 h2 h3=>by
     rcases Nat.lt_or_ge e p with h|h
     .exact h
     .have:=og.1 (jZ (f_ (show nT (iT 3 ops.toList 0) _=true from o2) e (lN.2 ⟨e,q,by rw[Array.getElem?_toList];exact h1,h2,by omega⟩)) (og.2 h))
      omega
    obtain⟨_,s2,_⟩:=R.seg (j - p) p (by have:=dQ J.ho;omega) (by rw[Lp];exact hE);rw[Lp]at s2;obtain⟨H,h',n',r1,r2⟩:=R.ro j o p J.ho hk I.pE (og.1 o1) hE;refine⟨H,h',n',?_,r1.name λh=>by omega⟩;rcases r2 with⟨hr,rfl⟩|rfl
    .refine s2 G g3 λa q ob h1 h2 h3 h4 h5=>g4 a q ob h1 h2 h3 (J.an a ?_) h4
     refine jZ (f_ (show nT (iT 2 ops.toList 0) _=true from hr) a (lN.2 ⟨a,q,by rw[Array.getElem?_toList];exact h1,h2,by omega⟩)) ?_;rw[rD.2 h5,bD];refine n_ λe he=>t_ λhle=>?_;obtain⟨i,q',q1,q2,rfl⟩:=lN.1 he;rw[Array.getElem?_toList]at q1;rw[Nat.zero_add]at hle⊢;refine og.2 ?_;rcases Nat.lt_or_ge i j with h|h
     .have:=hE i q' q1 q2 h
      have:=og.1 hle;omega
     .exact h
    .exact g3
   |false=>
    have hadm:adm (iT 3 ops.toList 0) A j p=true:=by
     have hmem:∀e,e∈iT 3 ops.toList 0->∃q,ops[e]?=some q/\d_ q.op=3:=λe he=>by
      obtain⟨i,q,q1,q2,rfl⟩:=lN.1 he;rw[Array.getElem?_toList]at q1;exact⟨q,by rw[Nat.zero_add];exact q1,q2⟩
     have a1:nT (iT 3 ops.toList 0) (λe=>yM (bit (A.getD j 0) e) (RZ e p))=true:=n_ λe he=>t_ λh=>by
      obtain⟨q,q1,q2⟩:=hmem e he;exact rD.2 ((I.Oe e q q1 q2).1 (J.an e h))
     have a2:nT (iT 3 ops.toList 0) (λe=>yM (RZ e p) (qY (bit (A.getD e 0) j)))=true:=n_ λe he=>t_ λh=>by
      obtain⟨q,q1,q2⟩:=hmem e he;have hl:=(I.Oe e q q1 q2).2 (rD.1 h);rw[jL];cases hb:bit (A.getD e 0) j with
      |false=>rfl
      |true=>have:=I.dc e hl j hb;rw[J.un]at this;cases this
     show bc _ _ false=true;rw[a1,a2];rfl
    obtain⟨h',n',b,e1,e2,e3⟩:=R.re j o p J.ho hk I.pE ow hadm;refine⟨(D p).h,(D p).h,(D j).n,g3,b,e1,λhb=>⟨(e2 hb).1,rfl,rfl⟩,λhb=>⟨λh=>by omega,λ_=>?_,λh=>by omega,λh=>by omega⟩⟩;obtain⟨h2,n2,k1,_⟩:=(e3 hb).2.1 hk;exact⟨h2,n2,k1,rfl,rfl⟩
  obtain⟨H,h',n',hs,b,e1,e2,e3⟩:=key;refine vC J.ho (mZ e1 hT hL) hF (λhb=>?_) (λhb=>?_)
  .obtain⟨hv,_⟩:=e2 hb
   exact hK p θ _ w (I.quiet K1 J rfl (.inr (.inl hk)) (by rw[hv];exact Sk)) (hput _)
  .obtain⟨h2,n2,k1,_⟩:=(e3 hb).2.1 hk
   obtain⟨u,k2,k3⟩:=B_ (.inr hk) k1 hT hL (g1.sub hs);exact zT (lM k1) k2 (hK p θ _ w (I.quiet K1 J rfl (.inr (.inl hk)) k3) (hput _))
 .obtain⟨_,e1⟩:=R.al j o J.ho hk
  rcases e1 with⟨e1,e2,hv,_⟩|⟨e1,h2,ob,e2,k1,k2,_⟩
  .refine vC J.ho (mZ e1 hT hL) hF (λ_=>?_) (λhb=>by cases hb)
   exact hK p θ _ w (I.quiet K1 J rfl (.inr (.inr ⟨hk,e2⟩)) (by rw[hv];exact Sk)) (hput _)
  .refine vC J.ho (mZ e1 hT hL) hF (λhb=>by cases hb) (λ_=>?_)
   obtain⟨ob',obj,c,u,rfl,q2,q3,q4,q5⟩:=Ll (w:=w) hk k1 hT hL;rw[iR,if_pos rfl]at k2;cases k2
   exact zT (lM k1) q3 (hK p _ _ _ (I.laid R K1 J rfl Ht hk e2 q2 q4 q5) (hput _))
 .obtain⟨b,e1,e2,e3⟩:=R.op j o J.ho (by omega)
  obtain⟨_,_,_,G1,a1,a2,a3,a4⟩:=I.ahead R K1 J hk;refine vC J.ho (mZ e1 hT hL) hF (λhb=>?_) (λhb=>?_)
  .obtain⟨hv,d1,d2⟩:=e2 hb
   refine hK (j+1) θ _ w (I.effect R K1 J rfl hk (iH.refl _) (G:=G1) (by rw[d2];exact a1) a2 (by rw[d1];exact a3) (by rw[d1];exact a4) (λ_ _ _ _ h=>h) (by rw[hv];exact Sk)) (hput _)
  .have k1:=(e3 hb).2.2.2 hk
   refine U_ hP r m hf hY k1 hT hL (a1.sub a3) λbW u w' hv hR hFr=>?_;obtain⟨b1,b2⟩:=RH.frame (nZ:=nZ) (h0:=h0) (w0:=w0) a1 a3 hR hFr;refine hK (j+1) bW _ w' (I.effect R K1 J rfl hk hFr.le b1 (b2 a2) (λx q hx=>?_) (λa q ob h1 h2 h3 h4 h5=>?_) (λa q h1 h2 h3=>?_) hv) (hput _)
   .rw[Tr.vk,hx];rfl
   .obtain⟨c1,c2⟩:=a4 a q ob h1 h2 h3 h4 h5
    have c3:=RH.apart a1 a3 hFr (x:=n0+(D a).r) (by rw[c1];rfl) c2;refine⟨?_,c3⟩;rw[Tr.vk,c3,Tr.y9,c2,c1];rfl
   .cases e:bW (n0+(D a).r)with
    |none=>rfl
    |some q'=>
     exfalso;have hr:=R.ltK h1 h2;have:=hFr.low _ _ h3 (by rw[e];simp) (I.dum (by omega));omega
theorem count_set:∀{l:List Bool}{j:Nat},l[j]?=some false->(l.set j true).count false+1=l.count false
 |[],_,h=>by simp at h
 |b::l,0,h=>by cases h;simp
 |b::l,j+1,h=>by
  have:=count_set (l:=l) (j:=j) (by simpa using h);rw[List.set_cons_succ,List.count_cons,List.count_cons];omega
theorem any_ok(hP:sF P)(r:Option Nat)(m:Nat)(hf:Good P sl f)(hY:xY P sl Y f)(R:mY P s Y ops W A f t n0 V D OB K)(K1:Va s ops W A)(hT0:RT s nZ t EH)(Ht:∀y,nZ y≠none->y<n0){Q:Exit->Act->World->Prop}{ds:List Deferred}
 (hQ:∀listed p θ a' w',Inv P s ops A sl n0 V D OB K nZ h0 w0 EH listed p θ a'.tmps w'->a'.defers=ds->(∀j,j<ops.size->listed.getD j false=true)->Q .normal a' w'):
 ∀(fuel:Nat)(listed:Array Bool)(p:Nat)(θ:Th)(ac:Act)(w:World),Inv P s ops A sl n0 V D OB K nZ h0 w0 EH listed p θ ac.tmps w->ac.defers=ds->listed.toList.count false<=fuel->wpAnyIn (FR r) m P .any ops Q fuel listed ac w:=by
 have hall:∀(listed:Array Bool) p θ tm w,Inv P s ops A sl n0 V D OB K nZ h0 w0 EH listed p θ tm w->Region.ready .any ops listed=[]->∀j,j<ops.size->listed.getD j false=true:=by
  intro listed p θ tm w I h j;induction j using Nat.strongRecOn with
  |ind j ih=>
   intro hj;cases e:listed.getD j false with
   |true=>rfl
   |false=>
    exfalso;obtain⟨o,ho⟩:=kN hj;have hlt:j<listed.size:=by rw[I.size];exact hj
    have:j∈Region.ready .any ops listed:=mem_ready.2 ⟨by simp only[Array.getD_eq_getD_getElem?,Array.getElem?_eq_getElem hlt]at e⊢;exact e,o,ho,λed h1 h2=>by
     have h3:=K1.edge j o ho ed h1 h2;exact ih _ h3 (by omega)⟩
    rw[h]at this;cases this
 intro fuel;induction fuel with
 |zero=>
  intro listed p θ ac w I hd hc;have hr:Region.ready .any ops listed=[]:=by
   cases e:Region.ready .any ops listed with
   |nil=>rfl
   |cons j js=>
    exfalso;obtain⟨o,J⟩:=Og I K1 (j:=j) (by rw[e];exact List.mem_cons_self ..);have h1:listed.toList[j]?=some false:=by
     have hu:=J.un;rw[Array.getElem?_toList,Array.getElem?_eq_getElem J.lt];simp only[Array.getD_eq_getD_getElem?,Array.getElem?_eq_getElem J.lt]at hu;exact congrArg some hu
    have:=count_set h1;omega
  exact⟨hr,hQ _ _ _ _ _ I hd (hall _ _ _ _ _ I hr)⟩
 |succ fuel ih=>
  intro listed p θ ac w I hd hc;refine⟨λhr=>hQ _ _ _ _ _ I hd (hall _ _ _ _ _ I hr),λj hj=>?_⟩;obtain⟨o,J⟩:=Og I K1 hj;refine WY hP r m hf hY R I K1 hT0 Ht J λp' bW a' w' I' hd'=>ih _ p' bW a' w' I' (hd'.trans hd) ?_;have h1:listed.toList[j]?=some false:=by
   have hu:=J.un;rw[Array.getElem?_toList,Array.getElem?_eq_getElem J.lt];simp only[Array.getD_eq_getD_getElem?,Array.getElem?_eq_getElem J.lt]at hu;exact congrArg some hu
  have:=count_set h1;rw[Array.toList_setIfInBounds];omega
theorem Dw{p q:Nat}{h:AH}{hs:List (Nat×AH)}:ER p ((q,h)::hs)=if q=p then some h else ER p hs:=by
 show bc (Nat.beq q p) (some h) (ER p hs)=_;by_cases e:q=p
 .subst e;rw[Nat.beq_refl,if_pos rfl];rfl
 .have:Nat.beq q p=false:=by
   cases e2:Nat.beq q p with
   |false=>rfl
   |true=>exact absurd (beq_eq e2) e
  rw[this,if_neg e];rfl
theorem Dx{E B:List Nat}{H0:AH}{N0:Nat}(hD:D 0=⟨H0,N0,0,[(0,H0)]⟩)(hst:∀k o,ops[k]?=some o->Dv P s Y ops W A f t E B n0 V k o (D k) (D (k+1))):∀(j p:Nat),j<=ops.size->p<=j->(p=0\/∃e q,ops[e]?=some q/\d_ q.op=3/\p=e+1)->ER p (D j).hs=some (D p).h
 |0,p,_,hp,_=>by
  obtain rfl:p=0:=by omega
  rw[hD,Dw,if_pos rfl]
 |j+1,p,hj,hp,hE=>by
  obtain⟨o,ho⟩:=kN (ops:=ops) (j:=j) (by omega);obtain⟨_,_,h3⟩:=hst j o ho;rw[h3];by_cases hk:d_ o.op=3
  .rw[if_pos hk,Dw]
   by_cases Lp:j+1=p
   .rw[if_pos Lp,Lp]
   .rw[if_neg Lp];exact Dx hD hst j p (by omega) (by omega) hE
  .rw[if_neg hk]
   refine Dx hD hst j p (by omega) ?_ hE;rcases hE with rfl|⟨e,q,h4,h5,rfl⟩
   .omega
   .rcases Nat.lt_or_ge e j with h|h
    .omega
    .obtain rfl:e=j:=by omega
     rw[ho]at h4;cases h4;exact absurd h5 hk
theorem Ka{E B:List Nat}{H0:AH}{N0:Nat}(hD:D 0=⟨H0,N0,0,[(0,H0)]⟩)(hst:∀k o,ops[k]?=some o->Dv P s Y ops W A f t E B n0 V k o (D k) (D (k+1))):∀(j p:Nat),j<=ops.size->p<=j->(p=0\/∃e q,ops[e]?=some q/\d_ q.op=3/\p=e+1)->(∀e q,ops[e]?=some q->d_ q.op=3->e<j->e<p)->(D j).hs.head?=some (p,(D p).h)
 |0,p,_,hp,_,_=>by
  obtain rfl:p=0:=by omega
  rw[hD];rfl
 |j+1,p,hj,hp,hE,hN=>by
  obtain⟨o,ho⟩:=kN (ops:=ops) (j:=j) (by omega);obtain⟨_,_,h3⟩:=hst j o ho;rw[h3];by_cases hk:d_ o.op=3
  .have:=hN j o ho hk (by omega)
   obtain rfl:p=j+1:=by omega
   rw[if_pos hk];rfl
  .rw[if_neg hk]
   refine Ka hD hst j p (by omega) ?_ hE λe q h1 h2 h3=>hN e q h1 h2 (by omega);rcases hE with rfl|⟨e,q,h4,h5,rfl⟩
   .omega
   .rcases Nat.lt_or_ge e j with h|h
    .omega
    .obtain rfl:e=j:=by omega
     rw[ho]at h4;cases h4;exact absurd h5 hk
theorem zU{vs:List AV}{hs:List (Nat×AH)}:∀{l:List (Nat×Nat)},(zM P s Y ops W A l).run f t vs hs=true->∀x∈l,(ck1 P s Y ops W A x.1 x.2).run f t vs hs=true
 |[],_,x,h=>by cases h
 |y::l,e,x,h=>by
  obtain⟨h1,h2⟩:=bY (show bc ((ck1 P s Y ops W A y.1 y.2).run f t vs hs) ((zM P s Y ops W A l).run f t vs hs) false=true from e);rcases List.mem_cons.1 h with rfl|h
  .exact h1
  .exact zU h2 x h
theorem Dy{i:Nat}{tm:Array Value}(hN:s.N<=tm.size):∀{l:List (Nat×Tmp)}{t t1:Tr AV},(C8 s i l).run (rv V i) t=some t1->(∀x∈l,x.1<i/\x.2+1<=s.N/\∃u,tm[x.2]?=some u/\aV θ (V x.1) u)->
 (∀k a,s.S k=true->t.get k=some a->(∃u,tm[k]?=some u/\aV θ a u)\/∃x∈l,x.2=k)->RT s θ t1 tm
 |[],t,t1,e,_,hb=>by
  cases e
  exact⟨hN,λk a hk hg=>(hb k a hk hg).resolve_right (by simp)⟩
 |x::l,t,t1,e,hl,hb=>by
  obtain⟨x1,x2,x3⟩:=hl x (List.mem_cons_self ..);have hl':=λy hy=>hl y (List.mem_cons_of_mem _ hy);have e':(bc (s.S x.2) _ (C8 s i l):PdF).run (rv V i) t=some t1:=e;cases hS:s.S x.2 with
  |true=>
   rw[hS,bD]at e';obtain⟨v,h1,h2⟩:=aB (show bnd ((EL (i - 1 - x.1)).run (rv V i)) (λv=>(C8 s i l).run (rv V i) ((pp 20 x.2).run v t))=some t1 from e');rw[jT,Dt x1]at h1;cases h1
   refine Dy hN h2 hl' λk a hk hg=>?_;rw[jJ]at hg;by_cases hkx:k=x.2
   .rw[if_pos hkx]at hg;cases hg;rw[hkx];exact .inl x3
   .rw[if_neg hkx]at hg
    rcases hb k a hk hg with h|⟨y,hy,rfl⟩
    .exact .inl h
    .rcases List.mem_cons.1 hy with rfl|hy
     .exact absurd rfl hkx
     .exact .inr ⟨y,hy,rfl⟩
  |false=>
   rw[hS,gH]at e';refine Dy hN e' hl' λk a hk hg=>?_;rcases hb k a hk hg with h|⟨y,hy,rfl⟩
   .exact .inl h
   .rcases List.mem_cons.1 hy with rfl|hy
    .rw[hS]at hk;cases hk
    .exact .inr ⟨y,hy,rfl⟩
theorem Sm(hP:sF P)(hm:P.follows .mixedOrders=true)(r:Option Nat)(m:Nat)(hf:Good P sl f)(hY:xY P sl Y f){id:Nat}{Q:Exit->Act->World->Prop}{h h':AH}{n n':Nat}{t':Tr AV}{x:Ex}{ac:Act}
 (e:(K8 P s Y ops).run f h n t= .ok x h' n' t')(hT:RT s θ t ac.tmps)(H:RH P sl θ h n w)
 (hQ:∀bW a' w',x= .bX->RT s bW t' a'.tmps->a'.defers=ac.defers->RH P sl bW h' n' w'->Fr θ h w bW h' w'->Q .normal a' w'):(Code.region id ops true).wpIn (FR r) m P Q ac w:=by
 refine wpIn_region_any hm ?_;unfold K8 at e;dsimp only at e;cases hS:okS s ops (wM ops.toList 0) (lI ops.toList) (iT 3 ops.toList 0) (iT 2 ops.toList 0)with
 |false=>rw[hS]at e;cases e
 |true=>
  rw[hS,bD]at e;have K1:=WW hS;dsimp only at e;generalize hK':kOf (iT 2 ops.toList 0)=K' at e;have hKK:((iT 2 ops.toList 0).length=0/\K'=0)\/(0<(iT 2 ops.toList 0).length/\K'=(iT 2 ops.toList 0).length+1):=by
   rw[<-hK'];cases iT 2 ops.toList 0 with
   |nil=>exact .inl ⟨rfl,rfl⟩
   |cons a l=>exact .inr ⟨by simp,by show nP l+1+1=_;rw[eT];simp⟩
  cases hD:(Bw P s Y ops (wM ops.toList 0) (lI ops.toList) (iT 3 ops.toList 0) (iT 2 ops.toList 0) ops.toList 0 0).run f t n h (Nat.add n K') [] [(0,h)]with
  |bad=>rw[hD]at e;cases e
  |ok h1 n1 vs hs=>
   rw[hD]at e;dsimp only at e;cases hC:(zM P s Y ops (wM ops.toList 0) (lI ops.toList) (pairs (iT 3 ops.toList 0) (iT 1 ops.toList 0) (lI ops.toList))).run f t vs hs with
   |false=>rw[hC]at e;cases e
   |true=>
    rw[hC,bD]at e;cases hW:(C8 s ops.size (wM ops.toList 0)).run vs t with
    |none=>rw[hW]at e;cases e
    |some t1=>
     rw[hW]at e;cases e
     obtain⟨V,D,_,d2,d3,rfl,d5⟩:=Fb (n0:=n) ops.toList 0 0 h (n+K') [(0,h)] (λ_=>.b true) hD;have hlen:0+ops.toList.length=ops.size:=by simp
     rw[hlen]at d3 hC hW;have hst:∀k o,ops[k]?=some o->Dv P s Y ops (wM ops.toList 0) (lI ops.toList) f t (iT 3 ops.toList 0) (iT 2 ops.toList 0) n V k o (D k) (D (k+1)):=λk o ho=>by
      have:=d5 k o (by rw[Array.getElem?_toList];exact ho)
      rwa [Nat.zero_add]at this
     have hop:∀j o,ops[j]?=some o->d_ o.op≠1->yP P s Y ops (wM ops.toList 0) (lI ops.toList) f t (Sj ops (wM ops.toList 0) (lI ops.toList) V j o) j o (n+(D j).r) (D j).h (D j).n (V j) (D (j+1)).h (D (j+1)).n:=λj o ho hk=>by
      obtain⟨⟨H,h',n',g1,g2⟩,_⟩:=hst j o ho;rcases g2 with⟨g2,_⟩|⟨_,rfl,g3,g4⟩
      .exact absurd g2 hk
      .rw[g3,g4];exact(zS g1 (λk hk=>K1.back j k hk)).name λh2=>if_pos h2
     obtain⟨OB,hOB⟩:=Classical.axiomOfChoice (r:=λ(j:Nat)(oo:Option AO)=>∀o,ops[j]?=some o->d_ o.op=2->WX P s Y ops (wM ops.toList 0) (lI ops.toList) f t (Sj ops (wM ops.toList 0) (lI ops.toList) V j o) j o (n+(D j).r) (D j).h (D j).n (V j) (D (j+1)).h (D (j+1)).n oo) (λj=>by
      cases ho:ops[j]? with
      |none=>exact⟨none,λo h=>by cases h⟩
      |some o=>
       by_cases hk:d_ o.op=2
       .obtain⟨oo,h⟩:=(hop j o ho (by omega)).aaG hk
        exact⟨oo,λo' h1 _=>by cases h1;exact h⟩
       .exact⟨none,λo' h1 h2=>by cases h1;exact absurd h2 hk⟩)
     have R:mY P s Y ops (wM ops.toList 0) (lI ops.toList) f t n V D OB (iT 2 ops.toList 0).length:=by
      refine⟨hop,λj o ho hk=>?_,λj o p ho hk hp Lp hE=>?_,λj o ho=>(hst j o ho).2.1,λj o ho hk=>hOB j o ho hk,λj o p ho hk hp how had=>?_,by rw[d3];simp⟩
      .obtain⟨⟨H,h',n',_,g2⟩,_⟩:=hst j o ho
       rcases g2 with⟨_,g3,g4,_⟩|⟨g2,_⟩
       .exact⟨g3,g4⟩
       .exact absurd hk g2
      .obtain⟨⟨H,h',n',g1,g2⟩,_⟩:=hst j o ho
       rcases g2 with⟨_,_,_,g5⟩|⟨g2,_⟩
       .refine⟨H,h',n',(zS g1 (λk hk=>K1.back j k hk)).name λh=>by omega,g5.imp (λz=>z) λ⟨q,hq⟩=>?_⟩
        have:=Ka d2 hst j p (Nat.le_of_lt (dQ ho)) Lp hp hE;rw[this]at hq;cases hq;rfl
       .exact absurd hk g2
      have hmem:(j,p)∈pairs (iT 3 ops.toList 0) (iT 1 ops.toList 0) (lI ops.toList):=by
       refine List.mem_flatMap.2 ⟨j,lN.2 ⟨j,o,by rw[Array.getElem?_toList];exact ho,hk,by omega⟩,List.mem_map.2 ⟨p,List.mem_filter.2 ⟨?_,?_⟩,rfl⟩⟩
       .rcases hp with rfl|⟨e,q,h1,h2,rfl⟩
        .exact List.mem_cons_self ..
        .exact List.mem_cons_of_mem _ (List.mem_map.2 ⟨e,lN.2 ⟨e,q,by rw[Array.getElem?_toList];exact h1,h2,by omega⟩,rfl⟩)
       .rw[how,gH];exact had
      have hck:=zU hC _ hmem;dsimp only at hck;unfold ck1 at hck;rw[ho]at hck;dsimp only at hck;have hj:=dQ ho;have hpN:p<=ops.size:=by
       rcases hp with rfl|⟨e,q,h1,_,rfl⟩
       .omega
       .exact dQ h1
      have aaI:=Dx d2 hst ops.size p (Nat.le_refl _) hpN hp;rw[d3]at aaI;rw[aaI,jT,Dt hj]at hck;dsimp only at hck;split at hck
      .rename_i v' h' n' hd
       have:=wX _ _ hck;subst this;exact⟨h',n',zS hd (λk hk=>Nat.lt_trans (K1.back j k hk) hj)⟩
      .cases hck
     have Ht:∀y,θ y≠none->y<n:=λy hy=>by
      rcases Nat.lt_or_ge y n with h|h
      .exact h
      .exact absurd (H.new y h) hy
     have H0:RH P sl θ h n w.drew:=⟨H.at_,H.inj,H.new,H.gl⟩;have base:∃pz,RH P sl pz h (n+K') w.drew/\Fr θ h w.drew pz h w.drew/\(0<(iT 2 ops.toList 0).length->pz (n+(iT 2 ops.toList 0).length)≠none)/\(∀x,n<=x->x<n+(iT 2 ops.toList 0).length->pz x=none):=by
      rcases hKK with⟨k1,rfl⟩|⟨k1,k2⟩
      .exact⟨θ,H0,Fr.refl _ _ _,λh=>by omega,λx h1 h2=>by omega⟩
      .obtain⟨b1,b2⟩:=H0.dummy (k:=(iT 2 ops.toList 0).length)
       refine⟨_,by rw[k2];exact b1,b2,λ_=>by rw[Th.dN];simp,λx h1 h2=>?_⟩;unfold Th.ins;rw[if_neg (by omega)];exact H.new x h1
     obtain⟨pz,b1,b2,b3,b4⟩:=base;have hnf:∀j,(Array.replicate ops.size false).getD j false=false:=λj=>by
      simp only[Array.getD_eq_getD_getElem?,Array.getElem?_replicate];split<;>rfl
     have hno:∀j,(Array.replicate ops.size false).getD j false=true->False:=λj hj=>by rw[hnf]at hj;cases hj
     have rlt:∀a o,ops[a]?=some o->d_ o.op=2->(D a).r<(iT 2 ops.toList 0).length:=λa o h1 h2=>R.ltK h1 h2;have I0:Inv P s ops (lI ops.toList) sl n V D OB (iT 2 ops.toList 0).length θ h w.drew ac.tmps (Array.replicate ops.size false) 0 pz ac.tmps w.drew:=by
      refine⟨by simp,λj hj=>(hno j hj).elim,Nat.zero_le _,.inl rfl,λe q _ _=>⟨λh=>(hno _ h).elim,λh=>by omega⟩,hT.size,λi o d hl=>(hno _ hl).elim,λk _=>rfl,⟨h,by rw[d2];exact b1,b2,by rw[d2];exact Sub.refl _,λa o ob _ _ _ hl=>(hno _ hl).elim⟩,λa o h1 h2 _=>b4 _ (by omega) (by have:=rlt a o h1 h2;omega),λa o h1 h2 _=>?_,b3⟩;rw[d2];cases hg:h.get (n+(D a).r)with
      |none=>rfl
      |some ob=>have:=H.dom hg;omega
     refine any_ok hP r m hf hY R K1 hT Ht (ds:=ac.defers) (λlisted p bW a' w' I hd hall=>?_) ops.size _ 0 pz ac _ I0 rfl (by simp);obtain⟨G,g1,g2,g3,g4⟩:=I.G;have hpN:=I.pN;have Lp:p+(ops.size - p)=ops.size:=by omega
     obtain⟨s1,s2,_⟩:=R.seg (ops.size - p) p (by omega) (λe q h1 h2 h3=>(I.Oe e q h1 h2).1 (hall e (dQ h1)));rw[Lp,d3]at s1 s2;have hs:=s2 G g3 λa o ob h1 h2 h3 h4 h5=>g4 a o ob h1 h2 h3 (hall a (dQ h1)) h4;dsimp only at s1 hs;refine hQ bW a' w' rfl (Dy I.t1 hW (λy hy=>?_) λk a hk hg=>?_) hd (by rw[s1];exact g1.sub hs) (g2.part hs).drew
     .obtain⟨o,k1,k2⟩:=(K1.Bv y.1 y.2).1 hy
      exact⟨dQ k1,K1.bnd _ _ _ k1 k2,I.t2 y.1 o y.2 (hall _ (dQ k1)) k1 k2⟩
     .by_cases hw:∃(i:Nat)(o:Oper),ops[i]?=some o/\o.dst=some k
      .obtain⟨i,o,k1,k2⟩:=hw
       exact .inr ⟨(i,k),(K1.Bv i k).2 ⟨o,k1,k2⟩,rfl⟩
      .obtain⟨u,k1,k2⟩:=hT.at_ k a hk hg
       refine .inl ⟨u,(I.t3 k λi o _ k3 k4=>hw ⟨i,o,k3,k4⟩).trans k1,aV.mono g2.le a k2⟩
end
end
section
section
variable {F:Fence} {n:Nat} {P:Program} {b:Frame} {a:Act} {k:List Item} {cs:List Frame} {w:World} {Q:Exit->Act->World->Prop}
theorem iV{c:Code}:step P (lone (b.atR a (.code (.scope c)::k)) cs w)= .next (lone (b.atR a (.code c:: .inScope c::k)) cs w):=
 step_lone_go (by simp[stepG,stepG.exec,Frame.atR])
theorem BH{c:Code}:step P (lone (b.atR a (.inScope c::k)) cs w)= .next (lone (b.atR a k) cs w):=
 step_lone_go (by simp[stepG,stepG.exec,Frame.atR])
theorem sH{c:Code}(h:c.wpIn F n P (Exit.noGoto Q) a w):(Code.scope c).wpIn F n P Q a w:=by
 intro b k cs hro hb hr;have h0:(lone (b.atR a (.code (.scope c)::k)) cs w).fenced P F:=fenced_calm hb hr rfl;obtain⟨e,a₁,w₁,hq,harr⟩:=h b (.inScope c::k) cs hro hb hr;cases e with
 |normal=>exact⟨.normal,a₁,w₁,hq,.head h0 iV (StepsIn.trans harr (.one (fenced_calm hb hr rfl) BH))⟩
 |exit id=>
  have hx:exitTo id (.inScope c::k)=exitTo id k:=by simp[exitTo]
  exact⟨.exit id,a₁,w₁,hq,λk' hk=>.head h0 iV (harr.1 k' (by rw[hx];exact hk)),λhr' hk=>let⟨k₁,h1,h2⟩:=harr.2 hr' (by rw[hx];exact hk);⟨k₁,h1,.head h0 iV h2⟩⟩
 |goto l=>exact hq.elim
 |ret=>exact⟨_,a₁,w₁,hq,.of_steps (.one h0 iV) harr⟩
 |panic ch=>exact⟨_,a₁,w₁,hq,.of_steps (.one h0 iV) harr⟩
 |outgrown=>exact⟨_,a₁,w₁,hq,.of_steps (.one h0 iV) harr⟩
theorem run_enterLoop_inner{l:Nat}{q:Loop}(fn:FuncId)(tmps:Array Value)(ps:Array Tmp)(assign body:Code)(e:w.heap[l]?=some (.loop q)):
 (Instr.enterLoop fn tmps ps assign body (some l)).run P w= .ok (w.heap.size,[]) (w.alloc (.loop {state:=.ready,pending:=none,fn,tmps,params:=ps,assign,body,defers:=q.defers})):=by
 unfold Instr.enterLoop;simp only[Sem.run_bind,run_getLoop e,run_newObj_alloc,Result.andThen,Sem.run_pure]
end
def Oh:Ex->Exit
 | .bX=>.normal
 | .exit id=>.exit id
 | .goto l=>.goto l
 | .ret=>.ret
def oQ(lo:Nat)(B:List Deferred)(θ:Th)(h:AH)(w:World)(ds:List Deferred):Prop:=
 ∃pre,ds=pre++B/\pre.Pairwise (λd e=>d≠e)/\∀d∈pre,∃b,d={target:=.collected b,args:=#[]}/\lo<=b/\w.heap[b]?=some (.deferred (some []))/\¬Im θ h b
def Rd(r:Option Nat)(w:World):Prop:=∀l,r=some l->∃q,w.heap[l]?=some (.loop q)
section
variable {P:Program} {sl:FuncId->Sl} {θ bW:Th} {h h':AH} {n n':Nat} {w w':World} {lo:Nat} {B:List Deferred} {ds:List Deferred} {r:Option Nat}
theorem oQ.fr(D:oQ lo B θ h w ds)(F:Fr θ h w bW h' w'):oQ lo B bW h' w' ds:=
 let⟨pre,e0,D1,D2⟩:=D
 ⟨pre,e0,D1,λd hd=>let⟨b,e1,e2,e3,e4⟩:=D2 d hd;⟨b,e1,e2,(F.block b (bK e3) e4).trans e3,λhi=>(F.from_ b hi).elim e4 (λhs=>by have:=bK e3;omega)⟩⟩
theorem Rd.fr(D:Rd r w)(F:Fr θ h w bW h' w'):Rd r w':=λl e=>let⟨q,hq⟩:=D l e;F.kind l q hq
theorem RH.aaJ(H:RH P sl θ h n w){k:Nat}(hi:Im θ h k):k<w.heap.size:=by
 obtain⟨x,c,hx,hr⟩:=hi;obtain⟨o,ho⟩:=Option.isSome_iff_exists.1 (gM hx);obtain⟨r,c',ob,h1,h2,_⟩:=H.at_ x o ho;rw[hr]at h1;cases h1;exact bK h2
theorem RH.extra(H:RH P sl θ h n w)(o:Obj):RH P sl θ h n (w.alloc o)/\Fr θ h w θ h (w.alloc o):=by
 have hheap:∀k,k<w.heap.size->(w.alloc o).heap[k]?=w.heap[k]?:=λk hk=>by
  show(w.heap.push o)[k]?=_;rw[Array.getElem?_push,if_neg (by omega)]
 refine H.mkF (λx a e=>?_) H.inj H.new ⟨rfl,rfl,rfl,by show _<=(w.heap.push o).size;simp,λk hk _=>hheap k hk,iH.refl _,λk e=>.inl e,λk q e=>⟨q,(hheap k (bK e)).trans e⟩,λ_ _ e e'=>absurd e e',λ_ _ e=>e⟩;obtain⟨r,c,ob,h1,h2,h3⟩:=H.at_ x a e;exact⟨r,c,ob,h1,(hheap r (bK h2)).trans h2,h3⟩
theorem RH.loop(H:RH P sl θ h n w){x:Nat}{st:LoopState}{pd:Option Code}{g:FuncId}{t:Tr AV}{ps:List Tmp}{fT body:Code}(e:h.get x=some (.lp st pd g t ps fT body)):
 ∃r c q,θ x=some (r,c)/\w.heap[r]?=some (.loop q)/\q.state=st/\q.pending=pd/\q.params=ps.toArray/\q.assign=fT/\q.body=body/\RT (sl g) θ t q.tmps/\
  ∀st' WZ,RH P sl θ (h.set x (.lp st' WZ g t ps fT body)) n (w.putObj r (.loop {q with state:=st',pending:=WZ}))/\Fr θ h w θ (h.set x (.lp st' WZ g t ps fT body)) (w.putObj r (.loop {q with state:=st',pending:=WZ})):=by
 obtain⟨r,c,ob,h1,h2,fn,tm,df,h3,h4⟩:=H.at_ x _ e;subst h3;refine⟨r,c,_,h1,h2,rfl,rfl,rfl,rfl,rfl,h4,λst' WZ=>?_⟩;refine H.turn e h1 (o':=.lp st' WZ g t ps fT body) (Bz:=.loop {state:=st',pending:=WZ,fn:=fn,tmps:=tm,params:=ps.toArray,assign:=fT,body:=body,defers:=df}) ⟨fn,tm,df,rfl,h4⟩ rfl rfl rfl (by simp) (λk=>?_) (λ_ _ _=>⟨_,rfl⟩);by_cases hk:k=r
 .subst hk;rw[if_pos rfl];exact World.putObj_heap_same (bK h2)
 .rw[if_neg hk];exact World.putObj_heap_other hk
end
section
variable (P:Program) (sl:FuncId->Sl) (Y:YT) (f:FT) (r:Option Nat) (m lo:Nat) (B:List Deferred) (g:FuncId)
def aaK(c:Code)(run:FT->AH->Nat->Tr AV->fJ):Prop:=∀{θ:Th}{h:AH}{n:Nat}{w:World}{t:Tr AV}{ac:Act}{x:Ex}{h':AH}{n':Nat}{t':Tr AV}{Q:Exit->Act->World->Prop},
 run f h n t= .ok x h' n' t'->RT (sl g) θ t ac.tmps->RH P sl θ h n w->oQ lo B θ h w ac.defers->lo<=w.heap.size->Rd r w->
 (∀bW a' w',RT (sl g) bW t' a'.tmps->RH P sl bW h' n' w'->oQ lo B bW h' w' a'.defers->Fr θ h w bW h' w'->Q (Oh x) a' w')->c.wpIn (FR r) m P Q ac w
end
section
variable {P:Program} {sl:FuncId->Sl} {Y:YT} {f:FT} {r:Option Nat} {m lo:Nat} {B:List Deferred} {g:FuncId}
theorem Kc{c:Code}{b:Cc}(ih:aaK P sl f r m lo B g c b.run):∀(k:Nat){θ:Th}{h:AH}{n:Nat}{w:World}{t:Tr AV}{ac:Act}{x:Ex}{h':AH}{n':Nat}{t':Tr AV}{Q:Exit->Act->World->Prop},
 pY k b f h n t= .ok x h' n' t'->RT (sl g) θ t ac.tmps->RH P sl θ h n w->oQ lo B θ h w ac.defers->lo<=w.heap.size->Rd r w->
 (∀bW a' w',RT (sl g) bW t' a'.tmps->RH P sl bW h' n' w'->oQ lo B bW h' w' a'.defers->Fr θ h w bW h' w'->Q (Oh x) a' w')->Code.roundsIn (FR r) m P c Q k ac w
 |0,_,_,_,_,_,_,_,_,_,_,_,e,_,_,_,_,_,_=>by cases e
 |k+1,θ,h,n,w,t,ac,x,h',n',t',Q,e,hT,H,D,hlo,hR,hQ=>by
  obtain⟨x1,h1,n1,t1,e1,e2⟩:=jK (show jh (b.run f h n t) (λx h n t=>EK x (pY k b f h n t) (.ok x h n t))= .ok x h' n' t' from e);rw[roundsIn_succ];refine ih e1 hT H D hlo hR λpz a1 w1 T1 H1 D1 F1=>?_;cases x1 with
  |bX=>exact Kc ih k (show pY k b f h1 n1 t1=_ from e2) T1 H1 D1 (Nat.le_trans hlo F1.size) (hR.fr F1) λCO a2 w2 T2 H2 D2 F2=>hQ CO a2 w2 T2 H2 D2 (F1.trans F2)
  |exit id=>cases e2;exact hQ pz a1 w1 T1 H1 D1 F1
  |goto l=>cases e2;exact hQ pz a1 w1 T1 H1 D1 F1
  |ret=>cases e2;exact hQ pz a1 w1 T1 H1 D1 F1
theorem Oi{l:Nat}{h h':AH}{n n':Nat}{t t':Tr AV}{x:Ex}(e:JU l h n t= .ok x h' n' t'):∃st pd g u ps fT body,h.get l=some (.lp st pd g u ps fT body)/\h'=h.set l (.lp .exhausted pd g u ps fT body)/\n'=n/\t'=t/\st≠ .busy/\
 ((pd=none/\x= .bX)\/(pd=some .ret/\x= .ret)\/∃id,pd=some (.exit id)/\x= .exit id):=by
 unfold JU at e;split at e
 .rename_i g u ps fT body hg;cases e;exact⟨_,_,_,_,_,_,_,hg,rfl,rfl,rfl,by decide,.inl ⟨rfl,rfl⟩⟩
 .rename_i g u ps fT body hg;cases e;exact⟨_,_,_,_,_,_,_,hg,rfl,rfl,rfl,by decide,.inr (.inl ⟨rfl,rfl⟩)⟩
 .rename_i id g u ps fT body hg;cases e;exact⟨_,_,_,_,_,_,_,hg,rfl,rfl,rfl,by decide,.inr (.inr ⟨id,rfl,rfl⟩)⟩
 .cases e
theorem Fe(hf:Good P sl f){θ:Th}{h:AH}{n:Nat}{w:World}{t:Tr AV}{ac:Act}{x:Ex}{h':AH}{n':Nat}{t':Tr AV}{Q:Exit->Act->World->Prop}{q:FuncId}{cap:List AV}{vs:List Value}{ps:Array Tmp}{fT body:Code}{fn:FuncId}{df:Nat}{rr:Operand}{ds:List Deferred}
 {W:World}(hW:W=w.alloc (.loop {state:=.ready,pending:=none,fn:=fn,tmps:=ac.tmps,params:=ps,assign:=fT,body:=body,defers:=df}))
 (e:nR (f q (.y n::cap) (h.set n (.lp .ready none g t ps.toList fT body)) (Nat.succ n)) (λ_ h2 n2=>JU n h2 n2 t)= .ok x h' n' t')
 (hv:fE θ cap vs)(hrr:ac.eval rr= .func (.func q) #[] vs.toArray)(hP:sF P)
 (hT:RT (sl g) θ t ac.tmps)(H:RH P sl θ h n w)(D:oQ lo B θ h w ds)
 (hQ:∀bW a' w',RT (sl g) bW t' a'.tmps->RH P sl bW h' n' w'->oQ lo B bW h' w' a'.defers->Fr θ h w bW h' w'->Q (Oh x) a' w'):
 ∃(d:Deferred)(w1':World)(f':FuncId)(args:Array Value)(w2:World),
  (resolve ac.eval (rangeCall rr w.heap.size) 0).run P W= .ok d w1'/\
  (∀f',Target.leads P w1' d.target d.args=some f'->(FR r).fn f')/\
  (invoke d.target d.args).run P w1'= .ok (.enter f' args) w2/\
  ((FR r).depth.isSome=true->1<=m)/\
  CallsIn (FR r) (m - 1) P f' args w2 (rangePost (FR r) m P w.heap.size Q {ac with defers:=ds}):=by
 obtain⟨v,h2,n2,e1,e2⟩:=yZ e;obtain⟨⟨fn',c,hq,hbd⟩,hcall⟩:=hf _ _ _ _ _ _ _ e1;obtain⟨H1,F1⟩:=H.alloc 0 (o:=.lp .ready none g t ps.toList fT body) (obj:=.loop {state:=.ready,pending:=none,fn:=fn,tmps:=ac.tmps,params:=ps,assign:=fT,body:=body,defers:=df})
  ⟨fn,ac.tmps,df,by simp,hT⟩
 rw[<-hW]at H1 F1;replace hcall:=hcall _ _ (.func (.yield w.heap.size) #[] #[]::vs) H1 ⟨_,_,⟨_,_,Th.dN _ _ _,rfl⟩,hv.mono F1.le,rfl⟩;have hne:¬fn'.name= "runtime.NumGoroutine":=by simpa using hP.2 _ _ hq
 refine⟨{target:=.fn (.func q) vs.toArray,args:=#[.func (.yield w.heap.size) #[] #[]]},W,q,(.func (.yield w.heap.size) #[] #[]::vs).toArray,W,?_,λ_ _=>trivial,?_,λhd=>by simp[FR,Fence.wide]at hd,(nY r hcall).mono ?_⟩
 .have ha:(rangeCall rr w.heap.size).args.map ac.eval=#[.func (.yield w.heap.size) #[] #[]]:=by
   show Array.map ac.eval #[.const (.func (.yield w.heap.size) #[] #[])]=_;rw[List.map_toArray];rfl
  show(Deferred.ofValue (ac.eval rr) ((rangeCall rr w.heap.size).args.map ac.eval)).run P W=_;rw[ha,hrr];simp[Deferred.ofValue]
 .simp[invoke,callFunc,hq,hbd,hne]
 .rintro e3 w3 ⟨W9,u,rfl,q1,q2,q3⟩
  obtain⟨st,pd,g1,u1,ps1,yN,oP,k1,rfl,rfl,rfl,k2,k3⟩:=Oi e2;obtain⟨r1,c1,lr,j1,j2,j3,j4,j5,j6,j7,j8,j9⟩:=q2.loop k1;have:W9 n=some (w.heap.size,0):=q3.le _ _ (Th.dN _ _ _);rw[j1]at this;cases this;obtain⟨H4,F4⟩:=j9 .exhausted lr.pending;have hend:=run_endLoop (P:=P) j2 (by rw[j3];exact k2);have F:=(F1.trans q3).trans F4;rw[j4]at H4 F hend;refine⟨_,_,hend,?_⟩;have key:∀a':Act,a'={ac with defers:=ds}->Q (Oh x) a' _:=λa' ha=>by
   subst ha;exact hQ W9 _ _ (hT.mono F.le) H4 (D.fr F) F
  rcases k3 with⟨rfl,rfl⟩|⟨rfl,rfl⟩|⟨id,rfl,rfl⟩
  .exact key _ rfl
  .exact wpIn_ret (key _ rfl)
  .exact wpIn_exit (key _ rfl)
theorem lQ(hP:sF P)(hf:Good P sl f)(hY:xY P sl Y f):∀(c:Code),aaK P sl f r m lo B g c (cc P sl g Y c).run
 | .skip,θ,h,n,w,t,ac,x,h',n',t',Q,e,hT,H,D,hlo,hR,hQ=>by
  cases e;exact wpIn_skip (hQ θ ac w hT H D (Fr.refl _ _ _))
 | .label l,θ,h,n,w,t,ac,x,h',n',t',Q,e,hT,H,D,hlo,hR,hQ=>by
  cases e;exact wpIn_label (hQ θ ac w hT H D (Fr.refl _ _ _))
 | .exit l,θ,h,n,w,t,ac,x,h',n',t',Q,e,hT,H,D,hlo,hR,hQ=>by
  cases e;exact wpIn_exit (hQ θ ac w hT H D (Fr.refl _ _ _))
 | .goto l,θ,h,n,w,t,ac,x,h',n',t',Q,e,hT,H,D,hlo,hR,hQ=>by
  cases e;exact wpIn_goto (hQ θ ac w hT H D (Fr.refl _ _ _))
 | .ret,θ,h,n,w,t,ac,x,h',n',t',Q,e,hT,H,D,hlo,hR,hQ=>by
  cases e;exact wpIn_ret (hQ θ ac w hT H D (Fr.refl _ _ _))
 | .refuse _,θ,h,n,w,t,ac,x,h',n',t',Q,e,hT,H,D,hlo,hR,hQ=>by cases e
 | .region id ops d,θ,h,n,w,t,ac,x,h',n',t',Q,e,hT,H,D,hlo,hR,hQ=>by
  cases d with
  |true=>
   exact Sm hP hP.1 r m hf hY (show(K8 P (sl g) Y ops).run f h n t=_ from e) hT H λbW a' w' hx T' hd H' F'=>by
    subst hx;exact hQ bW a' w' T' H' (by rw[hd];exact D.fr F') F'
  |false=>
   refine wpIn_region ?_;rw[List.range_eq_range',show ops.size=ops.toList.length by simp];exact Dr hP r m hf hY ops.toList 0 (λj=>by simp) (show(EP P (sl g) Y ops ops.toList []).run f h n t []=_ from e) hT (LR.nil _ _ _) H λbW a' w' hx T' hd H' F'=>by
    subst hx;exact hQ bW a' w' T' H' (by rw[hd];exact D.fr F') F'
 | .seq a b,θ,h,n,w,t,ac,x,h',n',t',Q,e,hT,H,D,hlo,hR,hQ=>by
  obtain⟨x1,h1,n1,t1,e1,e2⟩:=jK (show jh ((cc P sl g Y a).run f h n t) (λx h n t=>EK x ((cc P sl g Y b).run f h n t) (.ok x h n t))= .ok x h' n' t' from e);refine wpIn_seq (lQ hP hf hY a e1 hT H D hlo hR λpz a1 w1 T1 H1 D1 F1=>?_);cases x1 with
  |bX=>exact lQ hP hf hY b (show(cc P sl g Y b).run f h1 n1 t1=_ from e2) T1 H1 D1 (Nat.le_trans hlo F1.size) (hR.fr F1) λCO a2 w2 T2 H2 D2 F2=>hQ CO a2 w2 T2 H2 D2 (F1.trans F2)
  |exit id=>cases e2;exact hQ pz a1 w1 T1 H1 D1 F1
  |goto l=>cases e2;exact hQ pz a1 w1 T1 H1 D1 F1
  |ret=>cases e2;exact hQ pz a1 w1 T1 H1 D1 F1
 | .cond c a b,θ,h,n,w,t,ac,x,h',n',t',Q,e,hT,H,D,hlo,hR,hQ=>by
  rw[cc]at e;simp only at e;split at e
  .rename_i v hv
   have hc:ac.eval c= .bool v:=bH hv hT (LR.nil _ _ _);refine wpIn_cond hc ?_;cases v with
   |true=>exact lQ hP hf hY a e hT H D hlo hR hQ
   |false=>exact lQ hP hf hY b e hT H D hlo hR hQ
  .cases e
 | .block id a,θ,h,n,w,t,ac,x,h',n',t',Q,e,hT,H,D,hlo,hR,hQ=>by
  rw[cc]at e;obtain⟨x1,h1,n1,t1,e1,e2⟩:=jK e;refine wpIn_block (lQ hP hf hY a e1 hT H D hlo hR λpz a1 w1 T1 H1 D1 F1=>?_);cases x1 with
  |bX=>cases e2;exact hQ pz a1 w1 T1 H1 D1 F1
  |exit j=>
   show if j=id then Q .normal a1 w1 else Q (.exit j) a1 w1
   cases hj:Nat.beq j id with
   |true=>
    simp only[hj,bD]at e2;rw[if_pos (Nat.eq_of_beq_eq_true hj)];cases e2;exact hQ pz a1 w1 T1 H1 D1 F1
   |false=>
    simp only[hj,gH]at e2;rw[if_neg (λhh=>by rw[hh,Nat.beq_refl]at hj;cases hj)];cases e2;exact hQ pz a1 w1 T1 H1 D1 F1
  |goto l=>cases e2;exact hQ pz a1 w1 T1 H1 D1 F1
  |ret=>cases e2;exact hQ pz a1 w1 T1 H1 D1 F1
 | .loop a,θ,h,n,w,t,ac,x,h',n',t',Q,e,hT,H,D,hlo,hR,hQ=>by
  rw[cc]at e;exact wpIn_loop_rounds 1125899906842624 (Kc (lQ hP hf hY a) 1125899906842624 e hT H D hlo hR hQ)
 | .scope a,θ,h,n,w,t,ac,x,h',n',t',Q,e,hT,H,D,hlo,hR,hQ=>by
  rw[cc]at e;obtain⟨x1,h1,n1,t1,e1,e2⟩:=jK e;refine sH (lQ hP hf hY a e1 hT H D hlo hR λpz a1 w1 T1 H1 D1 F1=>?_);cases x1 with
  |goto l=>cases e2
  |bX=>cases e2;exact hQ pz a1 w1 T1 H1 D1 F1
  |exit j=>cases e2;exact hQ pz a1 w1 T1 H1 D1 F1
  |ret=>cases e2;exact hQ pz a1 w1 T1 H1 D1 F1
 | .rangeFunc rr ps fT body,θ,h,n,w,t,ac,x,h',n',t',Q,e,hT,H,D,hlo,hR,hQ=>by
  rw[cc]at e;simp only at e;split at e
  .rename_i q cap hv
   obtain⟨vs,hvs,hrr⟩:=bH hv hT (LR.nil _ _ _)
   .refine wpIn_rangeFunc λfn _=>?_
    cases r with
    |none=>
     obtain⟨H1,F1⟩:=H.extra (.deferred (some []));have D1:oQ lo B θ h (w.alloc (.deferred (some []))) ([{target:=.collected w.heap.size,args:=#[]}]++ac.defers):=by
      obtain⟨pre,e0,D1,D2⟩:=D.fr F1;refine⟨{target:=.collected w.heap.size,args:=#[]}::pre,by rw[e0];rfl,List.pairwise_cons.2 ⟨?_,D1⟩,?_⟩
      .rintro d hd rfl
       obtain⟨pre',e0',_,D4⟩:=D;obtain rfl:=List.append_cancel_right (e0.symm.trans e0');obtain⟨b,e1,_,e3,_⟩:=D4 _ hd;cases e1
       exact absurd (bK e3) (Nat.lt_irrefl _)
      .intro d hd
       rcases List.mem_cons.1 hd with rfl|hd
       .exact⟨_,rfl,hlo,World.alloc_heap_new _ _,λhi=>absurd (H.aaJ hi) (Nat.lt_irrefl _)⟩
       .exact D2 d hd
     obtain⟨d,w1',f',args,w2,k1,k2,k3,k4,k5⟩:=Fe (r:=none) (m:=m) (fn:=fn) (df:=w.heap.size) hf rfl e hvs hrr hP hT H1 D1 λbW a' w' T' H' D' F'=>hQ bW a' w' T' H' D' (F1.trans F');rw[World.size_alloc]at k1 k5;exact⟨_,_,_,d,w1',f',args,w2,run_enterLoop_outer _ _ _ _ _,k1,k2,k3,k4,k5⟩
    |some l=>
     obtain⟨lq,hl⟩:=hR l rfl;obtain⟨d,w1',f',args,w2,k1,k2,k3,k4,k5⟩:=Fe (r:=some l) (m:=m) (fn:=fn) (df:=lq.defers) hf rfl e hvs hrr hP hT H D hQ;exact⟨_,_,_,d,w1',f',args,w2,run_enterLoop_inner _ _ _ _ _ hl,k1,k2,k3,k4,k5⟩
  .cases e
end
end
section
variable {P:Program} {sl:FuncId->Sl} {θ:Th} {h h':AH} {n n':Nat} {w:World} {s:Sl} {t t':Tr AV} {f:FT} {v:AV} {Y:YT} {tm:Array Value}
theorem Ke{d:Tmp}{u:Value}(e:(wL s d).run t v=some t')(hT:RT s θ t tm)(hv:aV θ v u):d<s.N/\RT s θ t' (tm.setIfInBounds d u):=by
 unfold wL at e;cases hb:Nat.ble (Nat.succ d) (s.N)with
 |false=>rw[hb,gH]at e;cases e
 |true=>
  rw[hb,bD]at e;have hd:d+1<=s.N:=Nat.le_of_ble_eq_true hb;refine⟨hd,?_⟩;cases hS:s.S d with
  |true=>
   rw[hS,bD]at e;cases e;exact RT.put (ac:={tmps:=tm,defers:=[]}) hT hd hv hS
  |false=>
   rw[hS,gH]at e;cases e;exact RT.skip (ac:={tmps:=tm,defers:=[]}) hT hS
theorem Fg:∀{ps:List Tmp}{l:List AV}{vs:List Value}{t t':Tr AV}{tm:Array Value},xV s ps l t=some t'->fE θ l vs->RT s θ t tm->vs.length=ps.length/\RT s θ t' ((ps.zip vs).foldl (λtm x=>tm.setIfInBounds x.1 x.2) tm)
 |[],[],_,t,t',tm,e,hv,hT=>by cases e;cases hv;exact⟨rfl,hT⟩
 |k::ks,v::l,_,t,t',tm,e,hv,hT=>by
  obtain⟨u,vs,h1,h2,rfl⟩:=hv;obtain⟨t1,e1,e2⟩:=aB (show bnd ((wL s k).run t v) (λt=>xV s ks l t)=some t' from e);obtain⟨_,hT1⟩:=Ke e1 hT h1;obtain⟨g1,g2⟩:=Fg e2 h2 hT1;exact⟨by simp[g1],g2⟩
 |[],_::_,_,_,_,_,e,_,_=>by cases e
 |_::_,[],_,_,_,_,e,_,_=>by cases e
theorem Sn(r:Nat):FR (some r)=Fence.wide.inRound r:=rfl
theorem aaL{x:Nat}{k:Ex}{R:Ending->World->Prop}{r c:Nat}{a':Act}(e:yE x k h n= .ok v h' n')(H:RH P sl θ h n w)(hr:θ x=some (r,c))
 (hR:∀b w',v= .b b->RH P sl θ h' n' w'->Fr θ h w θ h' w'->R (.returned (.bool b)) w'):roundPost P r R (Oh k) a' w:=by
 unfold yE at e;split at e
 .rename_i st pd g u ps fT body hg
  obtain⟨r1,c1,q,j1,j2,j3,j4,j5,j6,j7,j8,j9⟩:=H.loop hg;rw[hr]at j1;cases j1;cases k with
  |bX=>
   cases e
   obtain⟨H4,F4⟩:=j9 .ready none;exact⟨_,_,run_endRound none j2,hR true _ rfl H4 F4⟩
  |ret=>
   cases e
   obtain⟨H4,F4⟩:=j9 .done (some .ret);exact⟨_,_,run_endRound (some .ret) j2,hR false _ rfl H4 F4⟩
  |exit id=>
   cases e
   obtain⟨H4,F4⟩:=j9 .done (some (.exit id));exact⟨_,_,run_endRound (some (.exit id)) j2,hR false _ rfl H4 F4⟩
  |goto l=>cases e
 .cases e
theorem Kg(hP:sF P)(hf:Good P sl f):∀(k:Nat),xY P sl (yl P sl k) f
 |0=>λx args h n v h' n' e=>by cases e
 |k+1=>by
  intro x args h n v h' n' e θ w vs r c H ha hr;have ih:=Kg hP hf k;have e0:(match h.get x with
   |some (.lp .ready pd g t ps fT body)=>aP (xV (sl g) ps args t) λt1=>
    pQ ((cc P sl g (yl P sl k) fT).run f h n t1) λx1 h n t2=>match x1 with
     | .bX=>match h.get x with
      |some (.lp .ready pd g1 u1 ps1 yN oP)=>pQ ((cc P sl g (yl P sl k) body).run f (h.set x (.lp .busy pd g1 u1 ps1 yN oP)) n t2) λx2 h n _=>yE x x2 h n
      |_=>.bad
     |_=>.bad
   |_=>.bad)=fH.ok v h' n':=e
  clear e;split at e0
  case h_2=>cases e0
  rename_i pd g t ps fT body hg;obtain⟨t1,e1,e2⟩:=aW e0;obtain⟨r1,c1,q,j1,j2,j3,j4,j5,j6,j7,j8,j9⟩:=H.loop hg;rw[hr]at j1;cases j1;obtain⟨g1,g2⟩:=Fg e1 ha j8;have hrun:=run_yield (P:=P) (l:=r) (args:=vs.toArray) j2 (by rw[j5];simpa using g1);have aaM:(q.params.zip vs.toArray).foldl (λtmps (x:Tmp×Value)=>tmps.setIfInBounds x.1 x.2) q.tmps=(ps.zip vs).foldl (λtm x=>tm.setIfInBounds x.1 x.2) q.tmps:=by
   rw[j5,<-Array.foldl_toList];simp
  refine⟨_,_,_,_,hrun,λm=>roundIn_of_wpIn trivial ?_⟩;obtain⟨x1,h1,n1,t2,e3,e4⟩:=nU e2;rw[<-Sn,j6,j7];have hT1:RT (sl g) θ t1 ((q.params.zip vs.toArray).foldl (λtmps (x:Tmp×Value)=>tmps.setIfInBounds x.1 x.2) q.tmps):=by rw[aaM];exact g2
  refine lQ (lo:=w.heap.size) (B:=[]) hP hf ih fT e3 hT1 H ⟨[],rfl,List.Pairwise.nil,by simp⟩ (Nat.le_refl _) (λl hl=>by cases hl;exact⟨_,j2⟩) λpz a1 w1 T1 H1 D1 F1=>?_;cases x1 with
  |exit id=>cases e4
  |goto l=>cases e4
  |ret=>cases e4
  |bX=>
   simp only at e4;split at e4
   case h_2=>cases e4
   rename_i pd2 g2' u2 ps2 agO aaN hg2;obtain⟨x2,h2,n2,t3,e5,e6⟩:=nU e4;obtain⟨r2,c2,q2,i1,i2,i3,i4,i5,i6,i7,i8,i9⟩:=H1.loop hg2;have:pz x=some (r,c):=F1.le _ _ hr;rw[i1]at this;cases this;obtain⟨H2,F2⟩:=i9 .busy q2.pending;refine⟨_,run_beginRound i2 i3,?_⟩;rw[i4]at H2 F2;have hq:({q2 with state:=.busy}:Loop)={q2 with state:=.busy,pending:=pd2}:=by rw[<-i4]
   rw[hq];refine lQ (lo:=w.heap.size) (B:=[]) hP hf ih body e5 T1 H2 (D1.fr F2) (Nat.le_trans F1.size F2.size) (λl hl=>by cases hl;exact F2.kind _ _ i2) λW9 a3 w3 T3 H3 D3 F3=>?_;exact aaL e6 H3 (F3.le _ _ i1) λb w4 hb H4 F4=>⟨W9,_,rfl,by rw[hb];rfl,H4,((F1.trans F2).trans F3).trans F4⟩
def Oj(tm:Array Value):ResultVar->Sem Value
 | .tmp t=>pure (tm.getD t undef)
 | .cell a ty=>do loadVar ty (<-asAddr (tm.getD a undef))
theorem Hu(fn:Func)(tm:Array Value):results fn tm=(do let vs <-fn.results.mapM (Oj tm);pure (if h:vs.size=1 then vs[0]else .tuple vs)):=rfl
theorem Dz(hT:RT s θ t tm)(H:RH P sl θ h n w):∀{rs:List ResultVar}{l:List AV},(C9 P s rs).run t h=some l->
 ∃vs,(rs.mapM (Oj tm)).run P w= .ok vs w/\fE θ l vs
 |[],l,e=>by cases e;exact⟨[],rfl,rfl⟩
 | .tmp k::rs,l,e=>by
  obtain⟨a,e1,e2⟩:=aB (show bnd ((co s [] (.tmp k)).run t []) (λa=>bnd ((C9 P s rs).run t h) λb=>some (a::b))=some l from e);obtain⟨b,e3,e4⟩:=aB e2;cases e4
  have h1:aV θ a (tm.getD k undef):=bH (ac:={tmps:=tm,defers:=[]}) e1 hT (LR.nil _ _ _);obtain⟨vs,h2,h3⟩:=Dz hT H e3;refine⟨_::vs,?_,⟨_,vs,h1,h3,rfl⟩⟩;rw[List.mapM_cons];simp only[Oj,Sem.run_bind,Sem.run_pure,Result.andThen,h2]
 | .cell a ty::rs,l,e=>by
  have e0:(match(co s [] (.tmp a)).run t []with|some (.p x o)=>bnd (zF P ty h x o) λa=>bnd ((C9 P s rs).run t h) λb=>some (a::b)|_=>none)=some l:=e;split at e0
  case h_2=>cases e0
  rename_i x o hx;obtain⟨a1,e1,e2⟩:=aB e0;obtain⟨b,e3,e4⟩:=aB e2;cases e4
  obtain⟨r,c,hr,hp⟩:aV θ (.p x o) (tm.getD a undef):=bH (ac:={tmps:=tm,defers:=[]}) hx hT (LR.nil _ _ _);obtain⟨u,g1,g2⟩:=EW e1 hr H;obtain⟨vs,h2,h3⟩:=Dz hT H e3;refine⟨u::vs,?_,⟨_,vs,g2,h3,rfl⟩⟩;have hx1:(Oj tm (.cell a ty)).run P w= .ok u w:=by
   simp only[Oj,Sem.run_bind,Sem.run_pure,Result.andThen,hp,asAddr,g1]
  rw[List.mapM_cons];simp only[Sem.run_bind,Sem.run_pure,Result.andThen,hx1,h2]
theorem Kh{fn:Func}(e:yO P s fn.results.toList t h=some v)(hT:RT s θ t tm)(H:RH P sl θ h n w):∃u,(results fn tm).run P w= .ok u w/\aV θ v u:=by
 obtain⟨l,e1,e2⟩:=aB e;obtain⟨vs,h1,h2⟩:=Dz hT H e1;refine⟨if h:vs.toArray.size=1 then vs.toArray[0]else .tuple vs.toArray,?_,?_⟩
 .rw[Hu,Array.mapM_eq_mapM_toList]
  simp only[Sem.run_bind,Sem.run_map,Sem.run_pure,Result.andThen,h1]
 .have hl:=h2.length
  split at e2
  .cases e2
   obtain⟨u,us,g1,g2,rfl⟩:=h2;cases g2
   exact g1
  .rename_i hne
   cases e2
   rw[dif_neg]
   .exact⟨vs,h2,rfl⟩
   .intro h3
    have:l.length=1:=by rw[<-hl];simpa using h3
    obtain⟨a,ha⟩:=List.length_eq_one_iff.1 this;exact hne a ha
theorem m_{fn:Func}{nZ:Th}{h0:AH}{w0:World}{R:Ending->World->Prop}{B:List Deferred}{lo:Nat}{u:FrameMode}(hu:u≠ .run)(hlo:w0.heap.size<=lo)(hR:∀w',RH P sl θ h n w'->Fr nZ h0 w0 θ h w'->LeavesInM Fence.wide 0 P fn tm R B u w'):
 ∀(pre:List Deferred)(w:World),pre.Pairwise (λd e=>d≠e)->(∀d∈pre,∃b,d={target:=.collected b,args:=#[]}/\lo<=b/\w.heap[b]?=some (.deferred (some []))/\¬Im θ h b)->RH P sl θ h n w->Fr nZ h0 w0 θ h w->LeavesInM Fence.wide 0 P fn tm R (pre++B) u w
 |[],w,_,_,H,F=>hR w H F
 |d::ds,w,D1,D2,H,F=>by
  obtain⟨b,rfl,e2,e3,e4⟩:=D2 _ (List.mem_cons_self ..);refine⟨hu,.inl ⟨b,_,rfl,run_takeDeferred e3,?_⟩⟩;have hb:=bK e3;have hoth:∀k,k≠b->(w.putObj b (.deferred none)).heap[k]?=w.heap[k]?:=λk hk=>World.putObj_heap_other hk;refine m_ hu hlo hR ds _ (List.pairwise_cons.1 D1).2 (λd hd=>?_) ⟨λx o e=>?_,H.inj,H.new,λg e=>let⟨ty,q,e1,e2⟩:=H.gl g e;⟨ty,q,(hoth g (by rintro rfl;rw[e3]at e1;cases e1)).trans e1,e2⟩⟩ ⟨F.os,F.tape,F.output,by simpa using F.size,λk hk hn=>?_,F.le,F.from_,λk q e=>?_,F.low,F.ro⟩
  .obtain⟨b',g1,g2,g3,g4⟩:=D2 d (List.mem_cons_of_mem _ hd)
   refine⟨b',g1,g2,(hoth b' ?_).trans g3,g4⟩;rintro rfl;exact(List.pairwise_cons.1 D1).1 d hd g1.symm
  .obtain⟨r,c,ob,h1,h2,h3⟩:=H.at_ x o e
   refine⟨r,c,ob,h1,(hoth r ?_).trans h2,h3⟩;rintro rfl;cases hw:Bv (some o)with
   |true=>exact e4 ⟨x,c,by rw[e];exact hw,h1⟩
   |false=>
    cases o with
    |ro f=>obtain⟨cs,t,fz,rfl,_⟩:=h3;rw[e3]at h2;cases h2
    |_=>cases hw
  .exact(hoth k (by omega)).trans (F.block k hk hn)
  .obtain⟨q',hq⟩:=F.kind k q e
   exact⟨q',(hoth k (by have:=bK e;omega)).trans hq⟩
theorem DC{A:Array Value}:∀{l:List AV}{vs:List Value}{k:Nat}{t t':Tr AV},wP s k l t=some t'->fE θ l vs->(∀j u,vs[j]?=some u->A[k+j]?=some u)->RT s θ t A->RT s θ t' A
 |[],_,_,_,_,e,_,_,hT=>by cases e;exact hT
 |v::l,_,k,t,t',e,hv,hA,hT=>by
  obtain⟨u,vs,h1,h2,rfl⟩:=hv;obtain⟨t1,e1,e2⟩:=aB (show bnd ((wL s k).run t v) (λt=>wP s (k+1) l t)=some t' from e);obtain⟨_,hT1⟩:=Ke e1 hT h1;have hu:A[k]?=some u:=hA 0 u rfl;have:A.setIfInBounds k u=A:=by
   apply Array.ext_getElem?;intro i;rw[Array.getElem?_setIfInBounds];by_cases hi:k=i
   .subst hi
    have hk:k<A.size:=by
     rcases Nat.lt_or_ge k A.size with h|h
     .exact h
     .rw[Array.getElem?_eq_none h]at hu;cases hu
    rw[if_pos rfl,hu,if_pos hk]
   .rw[if_neg hi]
  rw[this]at hT1;exact DC e2 h2 (λj u hj=>by have:=hA (j+1) u hj;rwa [show k+1+j=k+(j+1) by omega]) hT1
theorem RT.empty(s:Sl)(θ:Th){A:Array Value}(h:s.N<=A.size):RT s θ .z A:=⟨h,λ_ _ _ e=>by cases e⟩
theorem W_(hP:sF P)(hf:Good P sl f){g:FuncId}{args:List AV}(e:(WL P sl g).run f args h n= .ok v h' n'):
 (∃fn c,P.funcs[g]?=some fn/\fn.body=some c)/\∀θ w vs,RH P sl θ h n w->fE θ args vs->Calls P g vs.toArray w (wU P sl θ h w v h' n'):=by
 unfold WL at e;split at e
 case h_2=>cases e
 rename_i fn hfn;split at e
 case h_2=>cases e
 rename_i c hc;rw[nV,Array.getElem?_toList]at hfn;cases hb:Nat.ble (sl g).N fn.ntmps with
 |false=>rw[hb,gH]at e;cases e
 |true=>
  rw[hb,bD]at e;have hN:(sl g).N<=fn.ntmps:=Nat.le_of_ble_eq_true hb;refine⟨⟨fn,c,hfn,hc⟩,λθ w vs H ha=>?_⟩;obtain⟨t,e1,e2⟩:=aW e;obtain⟨x,h1,n1,t1,e3,e4⟩:=nU e2;have hT:RT (sl g) θ t (vs.toArray++Array.replicate (fn.ntmps - vs.toArray.size) undef):=by
   refine DC e1 ha (λj u hj=>?_) (RT.empty _ _ (by simp;omega));rw[Nat.zero_add,Array.getElem?_append_left (by simpa using(List.getElem?_eq_some_iff.1 hj).1)];simpa using hj
  have hfr:FR none=Fence.wide:=rfl;refine(callsIn_wide (n:=0)).1 (callsIn_of_wp_marks hfn hc trivial ?_);rw[<-hfr];refine lQ (lo:=w.heap.size) (B:=[]) hP hf (Kg hP hf 20) c e3 hT H ⟨[],rfl,List.Pairwise.nil,by simp⟩ (Nat.le_refl _) (λl hl=>by cases hl) λpz a1 w1 T1 H1 D1 F1=>?_;have key:ok1 (yO P (sl g) fn.results.toList t1 h1) h1 n1= .ok v h' n'->LeavesInM Fence.wide 0 P fn a1.tmps (wU P sl θ h w v h' n') a1.defers .returning w1:=λe=>by
   obtain⟨q1,rfl,rfl⟩:=h_ e;obtain⟨pre,e0,D1,D2⟩:=D1;rw[e0];refine m_ (u:=.returning) (by simp) (Nat.le_refl _) (λw' H' F'=>?_) pre w1 D1 D2 H1 F1;obtain⟨u,k1,k2⟩:=Kh q1 T1 H';exact⟨u,k1,pz,u,rfl,k2,H',F'⟩
  cases x with
  |bX=>exact key e4
  |ret=>exact key e4
  |exit id=>cases e4
  |goto l=>cases e4
variable (P sl)in
def zV(O:OT):Prop:=∀f,Good P sl f->∀g args h n v h' n',O f g args h n=some (.ok v h' n')->(∃fn c,P.funcs[g]?=some fn/\fn.body=some c)/\∀θ w vs,RH P sl θ h n w->fE θ args vs->Calls P g vs.toArray w (wU P sl θ h w v h' n')
theorem qd{O:OT}(hP:sF P)(hO:zV P sl O):∀k,Good P sl (iU P sl O k)
 |0=>λg args h n v h' n' e=>by cases e
 |k+1=>λg args h n v h' n' e=>by
  have e0:@Option.rec fH (λ_=>fH) ((WL P sl g).run (iU P sl O k) args h n) (λr=>r) (O (iU P sl O k) g args h n)= .ok v h' n':=e;cases ho:O (iU P sl O k) g args h n with
  |none=>rw[ho]at e0;exact W_ hP (qd hP hO k) e0
  |some r=>
   rw[ho]at e0;replace e0:r= .ok v h' n':=e0;subst e0;exact hO _ (qd hP hO k) g args h n v h' n' ho
end
end Go.Proofs.YtfnnplicbjeifaaGreatDoor

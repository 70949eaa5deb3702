/- part -/
import Derived.Test.YtfnnplicbjeifaaGreatDoorP03
set_option linter.all false
namespace Go.Proofs.YtfnnplicbjeifaaGreatDoor
section
noncomputable section
variable {h:AH} {n:Nat} {Q:AV->AH->Nat->Prop} {v:CS} {C:ay}
theorem oI(K:Nat)(hC:aY h n v C)(r:Int)(hQ:∀h' n',Up h n h' n'->Q (.b (C.role r)) h' n'):CW (EF (K+1)) 168 [.agg (v.av C),.i .i64 r] h n Q:=by
 refine aC ah1 rfl ?_;repeat' (first|(simp (disch:=omega) only[go_sem,simprocAttr,abC,CS.av,hC.ah.len])|(refine aS ?_ ?_<;>(intro hb hd;rw[hb];clear hb))|(with_reducible refine aj ?_))
 all_goals(first|(with_reducible refine dh hQ ?_ aH;first|(simp[ay.role,ieq];done)|(simp[ay.role,ieq];omega)|(simp_all [ay.role,ieq];done)|(simp_all [ay.role,ieq];omega))|((with_reducible refine gI hQ aH (λhz=>?_) (λhz=>?_))<;>first|(simp_all [ay.role,ieq];done)|(simp_all [ay.role,ieq];omega)))
theorem FD{r:Int}(e:¬0<=r\/¬r<C.acts.length):C.natural r=false:=by
 unfold ay.natural ay.Fx;by_cases h0:0<=r
 .rw[if_pos h0,List.getElem?_eq_none (by omega)]
 .rw[if_neg h0]
theorem Av{r:Int}{a:dM}(h0:0<=r)(e:C.acts[r.toNat]?=some a):C.natural r=((a.kind==1)&&(a.role== -1)):=by
 unfold ay.natural ay.Fx;rw[if_pos h0,e]
theorem Aw(K:Nat)(hC:aY h n v C)(r:Int)(hQ:∀h' n',Up h n h' n'->Q (.b (C.natural r)) h' n'):CW (EF (K+1)) 165 [.agg (v.av C),.i .i64 r] h n Q:=by
 refine aC c171 rfl ?_;repeat' (first|(simp (disch:=omega) only[go_sem,simprocAttr,abD,CS.av,hC.acts.len])|(refine aS ?_ ?_<;>(intro hb hd;rw[hb];clear hb))|(with_reducible refine aj ?_))
 any_goals(with_reducible refine dh hQ ?_ aH;exact FD (by omega))
 refine iD hC.acts (by omega) (by omega) (by omega) λb o a ha hb rd=>?_;repeat' (first|(simp (disch:=omega) only[go_sem,simprocAttr,rd.el,rd.hd,dM.av])|(refine aS ?_ ?_<;>(intro hb hd;rw[hb];clear hb))|(with_reducible refine aj ?_))
 any_goals(with_reducible refine dh hQ ?_ aH;rw[Av (by omega) ha];simp_all [ieq])
 refine iD hC.acts (by omega) (by omega) (by omega) λb o a' ha' hb rd=>?_;obtain rfl:a=a':=by rw[ha]at ha';cases ha';rfl
 repeat' (first|(simp (disch:=omega) only[go_sem,simprocAttr,rd.el,rd.hd,dM.av])|(refine aS ?_ ?_<;>(intro hb hd;rw[hb];clear hb))|(with_reducible refine aj ?_))
 all_goals(with_reducible refine dh hQ ?_ aH;rw[Av (by omega) ha];simp_all [ieq])
theorem Ti(K:Nat)(hC:aY h n v C)(k:aG)(t:AV)(hQ:∀h' n',Up h n h' n'->Q (.b (jU C k.kind k.role k.act k.need k.gK k.final)) h' n'):CW (EF (K+2)) 164 [.agg (v.av C),.agg (k.av t)] h n Q:=by
 refine aC ah6 rfl ?_;repeat' (first|(simp (disch:=omega) only[go_sem,simprocAttr,ub.old,XR,CS.av,aG.av])|(simp (disch:=omega) only[go_sem,simprocAttr,XR,CS.av,aG.av])|((first|rw[aR]|rw[bF]);with_reducible refine oI _ (hC.up aH) _ λh2 n2 u2=>?_;(first|replace ub:=Up.trans ub (Up.trans aH u2)|have ub:=u2);have hle:=ub.le;clear u2)|((first|rw[aR]|rw[bF]);with_reducible refine Aw _ (hC.up aH) _ λh2 n2 u2=>?_;(first|replace ub:=Up.trans ub (Up.trans aH u2)|have ub:=u2);have hle:=ub.le;clear u2)|(refine aS ?_ ?_<;>(intro hb hd;rw[hb];clear hb))|(with_reducible refine aj ?_))
 all_goals(first|(with_reducible refine dh hQ ?_ aH;first|(simp[jU,ieq];done)|(simp[jU,ieq];omega)|(simp_all [jU,ieq];done)|(simp_all [jU,ieq];omega))|((with_reducible refine gI hQ aH (λhz=>?_) (λhz=>?_))<;>first|(simp_all [jU,ieq];done)|(simp_all [jU,ieq];omega)))
theorem Kv(K:Nat)(hQ:∀h' n',Up h n h' n'->Q (.agg [.i .i64 0,.i .i64 1]) h' n'):CW (EF (K+1)) 166 [] h n Q:=by
 refine aC ah0 rfl ?_;repeat' (first|(simp (disch:=omega) only[go_sem,simprocAttr,abB])|(refine aS ?_ ?_<;>(intro hb hd;rw[hb];clear hb))|(with_reducible refine aj ?_))
 exact hQ _ _ aH
theorem XV(K:Nat)(x:Int)(h0: -1000000000000<=x)(h1:x<=1000000000000)(hQ:∀h' n',Up h n h' n'->Q (.i .u64 (x.natAbs:Nat)) h' n'):CW (EF (K+1)) 265 [.i .i64 x] h n Q:=by
 refine aC ah4 rfl ?_;repeat' (first|(simp (disch:=omega) only[go_sem,simprocAttr,abF])|(refine aS ?_ ?_<;>(intro hb hd;rw[hb];clear hb))|(with_reducible refine aj ?_))
 .rw[show gN .i64 (x+1)=x+1 from dI (by omega) (by omega),show gN .i64 (0 - (x+1))=0 - (x+1)from dI (by omega) (by omega),show gN .u64 (0 - (x+1))=0 - (x+1)from vL (by omega) (by omega),show gN .u64 (0 - (x+1)+1)=(x.natAbs:Nat) by rw[vL (by omega) (by omega)];omega]
  exact hQ _ _ aH
 .rw[show gN .u64 x=(x.natAbs:Nat) by rw[vL (by omega) (by omega)];omega]
  exact hQ _ _ aH
def D9(l:List Nat):Nat:=l.foldl Nat.gcd 0
theorem LQ{l:List Nat}{k x:Nat}(h:l[k]?=some x):D9 (l.take (k+1))=Nat.gcd (D9 (l.take k)) x:=by
 unfold D9;rw[List.take_add_one,h];simp
theorem Ii(K:Nat){x:AV}{ns:List Nat}(hx:SL h n 1 x (λx:Nat=>[AV.i .u64 (x:Nat)]) ns)(hb:∀x∈ns,x<=1000000000000)(hl:ns.length<=100)(hQ:∀h' n',Up h n h' n'->Q (.i .u64 (D9 ns:Nat)) h' n'):CW (EF (K+1)) 264 [x] h n Q:=by
 refine aC ah3 rfl ?_;repeat' (first|(simp (disch:=omega) only[go_sem,simprocAttr,abE,hx.len])|(refine aS ?_ ?_<;>(intro hb hd;rw[hb];clear hb))|(with_reducible refine aj ?_))
 refine gP ns.length (λ_=>True) h n (λk=>[(3,.i .u64 (D9 (ns.take k):Nat)),(6,x)]) (by omega) (by omega) (by omega) (by omega) (λ_=>⟨rfl,rfl⟩) rfl rfl (by(repeat' (first|exact aO|refine aM rfl ?_))) aH trivial (λk h' n' hk _ u=>?_) (λh' n' _ u=>?_)
 .repeat' (first|(simp (disch:=omega) only[go_sem,simprocAttr])|(refine aS ?_ ?_<;>(intro hb hd;rw[hb];clear hb))|(with_reducible refine aj ?_))
  refine iD hx (by omega) (by omega) (by omega) λb o a ha hbn rd=>?_;rw[show((k:Nat):Int).toNat=k by omega]at ha;have ua:=u.old b hbn;repeat' (first|(simp (disch:=omega) only[go_sem,simprocAttr,rd.el,rd.hd,ua])|(refine aS ?_ ?_<;>(intro hb hd;rw[hb];clear hb))|(with_reducible refine aj ?_))
  refine iF (λm h'' n'' F=>∃g:Nat,m<=1000000000000/\Nat.gcd g m=D9 (ns.take (k+1))/\Up h n h'' n''/\F=[(3,.i .u64 (g:Nat)),(5,.i .u64 (m:Nat)),(6,x),(7,.i .i64 (ns.length:Nat)),(8,.i .i64 (k:Nat))]) a (by have:=hb a (List.mem_of_getElem? ha);omega) ⟨_,⟨D9 (ns.take k),hb a (List.mem_of_getElem? ha),(LQ ha).symm,u,rfl⟩,by(repeat' (first|exact aO|refine aM rfl ?_))⟩ ?_;rintro m h2 n2 F ⟨g,hm,hg,u2,rfl⟩;repeat' (first|(simp (disch:=omega) only[go_sem,simprocAttr])|(refine aS ?_ ?_<;>(intro hb hd;rw[hb];clear hb))|(with_reducible refine aj ?_))
  .rename_i hd
   have hm0:m≠0:=by intro e;subst e;exact hd rfl
   rw[Tg (by omega)];repeat' (first|(simp (disch:=omega) only[go_sem,simprocAttr])|(refine aS ?_ ?_<;>(intro hb hd;rw[hb];clear hb))|(with_reducible refine aj ?_))
   rw[vD];refine⟨g % m,_,Nat.mod_lt _ (by omega),⟨m,by have:=Nat.mod_lt g (show 0<m by omega);omega,?_,u2,rfl⟩,by(repeat' (first|exact aO|refine aM rfl ?_))⟩;rw[<-hg,Nat.gcd_comm m,<-Nat.gcd_rec,Nat.gcd_comm]
  .rename_i hd
   have hm0:m=0:=by omega
   subst hm0;rw[Nat.gcd_zero_right]at hg;refine iO rfl rfl trivial u2 ?_;rw[<-hg]
   (repeat' (first|exact aO|refine aM rfl ?_))
 .repeat' (first|(simp (disch:=omega) only[go_sem,simprocAttr])|(refine aS ?_ ?_<;>(intro hb hd;rw[hb];clear hb))|(with_reducible refine aj ?_))
  rw[List.take_length];exact hQ _ _ u
end
end
section
noncomputable section
variable {h:AH} {n:Nat} {Q:AV->AH->Nat->Prop} {v:CS} {C:ay}
theorem XW(a b:Nat):D9 [a,b]=Nat.gcd a b:=by simp[D9]
theorem Ay(K:Nat)(r:bA)(hQ:∀h' n',Up h n h' n'->Q (.b r.ok) h' n'):CW (EF (K+2)) 230 [.agg r.av] h n Q:=by
 refine aC ah2 rfl ?_;repeat' (first|(simp (disch:=omega) only[go_sem,simprocAttr,ub.old,XM,bA.av])|(simp (disch:=omega) only[go_sem,simprocAttr,XM,bA.av])|((first|rw[aR]|rw[bF]);with_reducible refine XV _ _ (by omega) (by omega) λh2 n2 u2=>?_;(first|replace ub:=Up.trans ub (Up.trans aH u2)|have ub:=u2);have hle:=ub.le;clear u2)|(refine aS ?_ ?_<;>(intro hb hd;rw[hb];clear hb))|(with_reducible refine aj ?_))
 any_goals(first|(with_reducible refine dh hQ ?_ aH;first|(simp[bA.ok,ieq];done)|(simp[bA.ok,ieq];omega)|(simp_all [bA.ok,ieq];done)|(simp_all [bA.ok,ieq];omega))|((with_reducible refine gI hQ aH (λhz=>?_) (λhz=>?_))<;>first|(simp_all [bA.ok,ieq];done)|(simp_all [bA.ok,ieq];omega)))
 rw[bF];refine Ii (ns:=[r.num.natAbs,r.den.natAbs]) _ (SL.of (λ_=>rfl) (by omega) vE rfl rfl (by rintro k ⟨⟩;exact Nat.le_refl _)) (by simp;omega) (by simp) λh3 n3 u3=>?_;rw[XW];repeat' (first|(simp (disch:=omega) only[go_sem,simprocAttr,ub.old])|(simp (disch:=omega) only[go_sem,simprocAttr])|(refine aS ?_ ?_<;>(intro hb hd;rw[hb];clear hb))|(with_reducible refine aj ?_))
 refine dh hQ ?_ aH;have key:decide (r.num.natAbs.gcd r.den.natAbs=1)=decide (((r.num.natAbs.gcd r.den.natAbs:Nat):Int)=1):=decide_eq_decide.2 (by omega);rw[<-key];simp[bA.ok];omega
theorem Tj(K:Nat)(hC:aY h n v C)(h1:1<=C.aD)(h2:C.aD<=100)(hl:C.ah.length<=1000)(hQ:∀h' n',Up h n h' n'->Q (.b C.held) h' n'):CW (EF (K+1)) 161 [.agg (v.av C)] h n Q:=by
 refine aC c167 rfl ?_;repeat' (first|(simp (disch:=omega) only[go_sem,simprocAttr,ub.old,XP,CS.av,hC.ah.len])|(simp (disch:=omega) only[go_sem,simprocAttr,XP,CS.av,hC.ah.len])|(refine aS ?_ ?_<;>(intro hb hd;rw[hb];clear hb))|(with_reducible refine aj ?_))
 obtain⟨N,hN⟩:=Int.eq_ofNat_of_zero_le (show 0<=C.aD by omega);generalize hh:Tr.set h n _=hb;have ub:Up h n hb (n+1):=by rw[<-hh];exact aH
 have g1:hb.get n=some (.row 27 (v.av C)):=by rw[<-hh];exact vE
 clear hh;refine gP C.ah.length (λk=>∀i p,i<k->C.ah[i]?=some p->C.party p=true) hb (n+1) (λk=>[(1,.p n 0),(2,.b false)]) (by omega) (by omega) (by omega) (by omega) (λ_=>⟨rfl,rfl⟩) rfl rfl (by(repeat' (first|exact aO|refine aM rfl ?_))) aH (by omega) (λk h' n' hk hr u=>?_) (λh' n' hr u=>?_)
 .have g2:=(u.old n (by omega)).trans g1
  repeat' (first|(simp (disch:=omega) only[go_sem,simprocAttr,ub.old,g2,CS.av])|(simp (disch:=omega) only[go_sem,simprocAttr,g2,CS.av])|(refine aS ?_ ?_<;>(intro hb hd;rw[hb];clear hb))|(with_reducible refine aj ?_))
  rw[hN];refine gP N (λj=>∀i:Nat,i<j->C.ah[k]?≠some (i:Int)) h' n' (λ_=>[(1,.p n 0),(2,.b false),(3,.i .i64 (k:Nat)),(7,.i .i64 (C.ah.length:Nat)),(8,.i .i64 (k:Nat))]) (by omega) (by omega) (by omega) (by omega) (λ_=>⟨rfl,rfl⟩) rfl rfl (by(repeat' (first|exact aO|refine aM rfl ?_))) aH (by omega) (λj h2 n2 hj hr2 u2=>?_) (λh2 n2 hr2 u2=>?_)
  .have g3:=(u2.old n (by have:=u.le;omega)).trans g2
   repeat' (first|(simp (disch:=omega) only[go_sem,simprocAttr,ub.old,g3,CS.av])|(simp (disch:=omega) only[go_sem,simprocAttr,g3,CS.av])|(refine aS ?_ ?_<;>(intro hb hd;rw[hb];clear hb))|(with_reducible refine aj ?_))
   refine iD hC.ah (by omega) (by omega) (by omega) λb o a ha hbn rd=>?_;rw[show((k:Nat):Int).toNat=k by omega]at ha;have ua:=(u2.old b (by have:=u.le;omega)).trans ((u.old b (by omega)).trans (ub.old b hbn));repeat' (first|(simp (disch:=omega) only[go_sem,simprocAttr,ub.old,rd.el,rd.hd,ua])|(simp (disch:=omega) only[go_sem,simprocAttr,rd.el,rd.hd,ua])|(refine aS ?_ ?_<;>(intro hb hd;rw[hb];clear hb))|(with_reducible refine aj ?_))
   .rename_i hd
    refine iO rfl rfl (λi p hi hp=>?_) (u.trans u2) (by(repeat' (first|exact aO|refine aM rfl ?_)));by_cases e:i=k
    .subst e
     rw[ha]at hp;cases hp;simp[ay.party];omega
    .exact hr i p (by omega) hp
   .rename_i hd
    refine iO rfl rfl (λi hi e=>?_) u2 (by(repeat' (first|exact aO|refine aM rfl ?_)));by_cases e2:i=j
    .subst e2;rw[ha]at e;cases e;exact hd rfl
    .exact hr2 i (by omega) e
  .repeat' (first|(simp (disch:=omega) only[go_sem,simprocAttr,ub.old])|(simp (disch:=omega) only[go_sem,simprocAttr])|(refine aS ?_ ?_<;>(intro hb hd;rw[hb];clear hb))|(with_reducible refine aj ?_))
   refine dh hQ ?_ aH;obtain⟨a,ha⟩:∃a,C.ah[k]?=some a:=⟨C.ah[k],List.getElem?_eq_some_iff.2 ⟨hk,rfl⟩⟩;unfold ay.held;rw[List.all_eq_false];refine⟨a,List.mem_of_getElem? ha,?_⟩;simp only[ay.party,Bool.and_eq_true,decide_eq_true_eq];rintro⟨q1,q2⟩;obtain⟨i,rfl⟩:=Int.eq_ofNat_of_zero_le q1;exact hr2 i (by omega) ha
 .repeat' (first|(simp (disch:=omega) only[go_sem,simprocAttr,ub.old])|(simp (disch:=omega) only[go_sem,simprocAttr])|(refine aS ?_ ?_<;>(intro hb hd;rw[hb];clear hb))|(with_reducible refine aj ?_))
  refine dh hQ ?_ aH;unfold ay.held;rw[List.all_eq_true];intro p hp;obtain⟨i,hi⟩:=List.getElem?_of_mem hp;exact hr i p (List.getElem?_eq_some_iff.1 hi).1 hi
theorem qL(K:Nat)(r:bA)(hQ:∀h' n',Up h n h' n'->Q (.b r.plus) h' n'):CW (EF (K+3)) 167 [.agg r.av] h n Q:=by
 refine aC c173 rfl ?_;repeat' (first|(simp (disch:=omega) only[go_sem,simprocAttr,ub.old,XO,bA.av])|(simp (disch:=omega) only[go_sem,simprocAttr,XO,bA.av])|((first|rw[aR]|rw[bF]);with_reducible refine Ay _ r λh2 n2 u2=>?_;(first|replace ub:=Up.trans ub (Up.trans aH u2)|have ub:=u2);have hle:=ub.le;clear u2)|(refine aS ?_ ?_<;>(intro hb hd;rw[hb];clear hb))|(with_reducible refine aj ?_))
 all_goals(first|(with_reducible refine dh hQ ?_ aH;first|(simp[bA.plus,ieq];done)|(simp[bA.plus,ieq];omega)|(simp_all [bA.plus,ieq];done)|(simp_all [bA.plus,ieq];omega))|((with_reducible refine gI hQ aH (λhz=>?_) (λhz=>?_))<;>first|(simp_all [bA.plus,ieq];done)|(simp_all [bA.plus,ieq];omega)))
theorem Tk(a b c d:Int):(eB Tryz.prog 36 .eql).run (.agg [.i .i64 a,.i .i64 b]) (.agg [.i .i64 c,.i .i64 d])=bnd (bc (gu a c) (bc (gu b d) (some true) (some false)) (some false)) λe=>some (.b e):=by kernel_rfl
@[go_sem] theorem aia (a b c d:Int):(eB Tryz.prog 36 .eql).run (.agg [.i .i64 a,.i .i64 b]) (.agg [.i .i64 c,.i .i64 d])=some (.b (decide (a=c)&&decide (b=d))):=by
 rw[Tk,dz,dz];by_cases h1:a=c<;>by_cases h2:b=d<;>simp[h1,h2,bc,bnd]
theorem XZ(K:Nat)(hC:aY h n v C)(a:dM)(hQ:∀h' n',Up h n h' n'->Q (.b (C.qw a)) h' n'):CW (EF (K+4)) 163 [.agg (v.av C),.agg a.av] h n Q:=by
 refine aC ah5 rfl ?_;repeat' (first|(simp (disch:=omega) only[go_sem,simprocAttr,ub.old,XQ,CS.av,dM.av,hC.units.len])|(simp (disch:=omega) only[go_sem,simprocAttr,XQ,CS.av,dM.av,hC.units.len])|((first|rw[aR]|rw[bF]);with_reducible refine oI _ (hC.up aH) _ λh2 n2 u2=>?_;(first|replace ub:=Up.trans ub (Up.trans aH u2)|have ub:=u2);have hle:=ub.le;clear u2)|((first|rw[aR]|rw[bF]);with_reducible refine Kv _ λh2 n2 u2=>?_;(first|replace ub:=Up.trans ub (Up.trans aH u2)|have ub:=u2);have hle:=ub.le;clear u2)|((first|rw[aR]|rw[bF]);with_reducible refine qL _ a.lot λh2 n2 u2=>?_;(first|replace ub:=Up.trans ub (Up.trans aH u2)|have ub:=u2);have hle:=ub.le;clear u2)|(refine aS ?_ ?_<;>(intro hb hd;rw[hb];clear hb))|(with_reducible refine aj ?_))
 any_goals(first|(with_reducible refine dh hQ ?_ aH;first|(simp[ay.qw,qo,bA.zero,ieq];done)|(simp[ay.qw,qo,bA.zero,ieq];omega)|(simp_all [ay.qw,qo,bA.zero,ieq];done)|(simp_all [ay.qw,qo,bA.zero,ieq];omega))|((with_reducible refine gI hQ aH (λhz=>?_) (λhz=>?_))<;>first|(simp_all [ay.qw,qo,bA.zero,ieq];done)|(simp_all [ay.qw,qo,bA.zero,ieq];omega)))
 all_goals trace_state
 done
end
end
section
noncomputable section
variable {h:AH} {n:Nat} {Q:AV->AH->Nat->Prop} {v:CS} {C:ay} {x:AV} {us:List dP}
theorem FH(K:Nat)(hx:SL h n 5 x dP.av us)(i:Int)(hQ:∀h' n',Up h n h' n'->Q (.b (mH us i)) h' n'):CW (EF (K+1)) 263 [x,.i .i64 i] h n Q:=by
 refine aC ah8 rfl ?_;repeat' (first|(simp (disch:=omega) only[go_sem,simprocAttr,abG,hx.len])|(refine aS ?_ ?_<;>(intro hb hd;rw[hb];clear hb))|(with_reducible refine aj ?_))
 all_goals(first|(with_reducible refine dh hQ ?_ aH;first|(simp[mH,ieq];done)|(simp[mH,ieq];omega)|(simp_all [mH,ieq];done)|(simp_all [mH,ieq];omega))|((with_reducible refine gI hQ aH (λhz=>?_) (λhz=>?_))<;>first|(simp_all [mH,ieq];done)|(simp_all [mH,ieq];omega)))
theorem Tm(K:Nat)(hx:SL h n 5 x dP.av us)(hl:us.length<=1000){i:Nat}{u:dP}(hi:us[i]?=some u)(hQ:∀h' n',Up h n h' n'->Q (.b (fU us i u)) h' n'):CW (EF (K+3)) 229 [x,.i .i64 (i:Nat)] h n Q:=by
 have hil:=(List.getElem?_eq_some_iff.1 hi).1;refine aC ah9 rfl ?_;repeat' (first|(simp (disch:=omega) only[go_sem,simprocAttr,ub.old,XT])|(simp (disch:=omega) only[go_sem,simprocAttr,XT])|(refine aS ?_ ?_<;>(intro hb hd;rw[hb];clear hb))|(with_reducible refine aj ?_))
 refine iD hx (by omega) (by omega) (by omega) λb o a ha hb rd=>?_;rw[show((i:Nat):Int).toNat=i by omega,hi]at ha;cases ha;obtain⟨y,hy,hs⟩:=SL.take hx (i:=i) (by omega) (by omega);repeat' (first|(simp (disch:=omega) only[go_sem,simprocAttr,ub.old,rd.el,rd.hd,rd.all,dP.av,hy,hs.len])|(simp (disch:=omega) only[go_sem,simprocAttr,rd.el,rd.hd,rd.all,dP.av,hy,hs.len])|(refine aS ?_ ?_<;>(intro hb hd;rw[hb];clear hb))|(with_reducible refine aj ?_))
 any_goals(first|(with_reducible refine dh hQ ?_ aH;first|(simp[fU,D5,ieq];done)|(simp[fU,D5,ieq];omega)|(simp_all [fU,D5,ieq];done)|(simp_all [fU,D5,ieq];omega))|((with_reducible refine gI hQ aH (λhz=>?_) (λhz=>?_))<;>first|(simp_all [fU,D5,ieq];done)|(simp_all [fU,D5,ieq];omega)))
 have hd1:D5 i u.name=true:=by simp_all [D5]
 generalize hh:Tr.set (Tr.set h n _) n _=hb0;have u0:Up h n hb0 (n+1):=by rw[<-hh];exact aH
 have g1:hb0.get n=some (.row 159 u.av):=by rw[<-hh];exact vE
 clear hh;have hlen:(us.take i).length=i:=by rw[List.length_take];omega
 refine gP (us.take i).length (λk=>∀j w,j<k->(us.take i)[j]?=some w->¬w.name.toList=u.name.toList) hb0 (n+1) (λk=>[(0,x),(1,.i .i64 (i:Nat)),(4,.b false),(5,.p n 0),(21,y)]) (by omega) (by omega) (by omega) (by omega) (λ_=>⟨rfl,rfl⟩) rfl rfl (by(repeat' (first|exact aO|refine aM rfl ?_))) aH (by omega) (λk h' n' hk hr u1=>?_) (λh' n' hr u1=>?_)
 .have g2:=(u1.old n (by omega)).trans g1
  have ule:=u1.le;repeat' (first|(simp (disch:=omega) only[go_sem,simprocAttr,ub.old])|(simp (disch:=omega) only[go_sem,simprocAttr])|(refine aS ?_ ?_<;>(intro hb hd;rw[hb];clear hb))|(with_reducible refine aj ?_))
  refine iD hs (by omega) (by omega) (by omega) λb2 o2 w hw hbn eP=>?_;rw[show((k:Nat):Int).toNat=k by omega]at hw;have ua:=(u1.old b2 (by omega)).trans (u0.old b2 hbn);repeat' (first|(simp (disch:=omega) only[go_sem,simprocAttr,ub.old,eP.el,eP.hd,eP.all,ua,g2,dP.av])|(simp (disch:=omega) only[go_sem,simprocAttr,eP.el,eP.hd,eP.all,ua,g2,dP.av])|(refine aS ?_ ?_<;>(intro hb hd;rw[hb];clear hb))|(with_reducible refine aj ?_))
  .refine dh hQ ?_ aH
   rename_i hd;have:newName (us.take i) u.name=false:=by
    unfold newName;rw[List.all_eq_false];exact⟨w,List.mem_of_getElem? hw,by simp[hd]⟩
   simp[fU,this]
  .rename_i hd
   refine iO rfl rfl (λj w' hj hw'=>?_) aH (by(repeat' (first|exact aO|refine aM rfl ?_)));by_cases e:j=k
   .subst e;rw[hw]at hw';cases hw';exact hd
   .exact hr j w' (by omega) hw'
 .have g2:=(u1.old n (by omega)).trans g1
  have ule:=u1.le;have hn:newName (us.take i) u.name=true:=by
   unfold newName;rw[List.all_eq_true];intro w hw;obtain⟨j,hj⟩:=List.getElem?_of_mem hw;have:=hr j w (List.getElem?_eq_some_iff.1 hj).1 hj;simp[this]
  by_cases hb:mH us u.base=true
  .have hb2:=hb
   simp only[mH,Bool.and_eq_true,decide_eq_true_eq]at hb2;obtain⟨b3,o3,z,q1,q2,q3,q4⟩:=hx.dL hb2.1 hb2.2 (by omega);have ua:=(u1.old b3 (by omega)).trans (u0.old b3 (by omega));repeat' (first|(simp (disch:=omega) only[go_sem,simprocAttr,ub.old,g2,dP.av,q1,ua,q4.el,q4.hd,hb])|(simp (disch:=omega) only[go_sem,simprocAttr,g2,dP.av,q1,ua,q4.el,q4.hd,hb])|((first|rw[aR]|rw[bF]);with_reducible refine Ay _ u.factor λh2 n2 u2=>?_;(first|replace ub:=Up.trans ub (Up.trans aH u2)|have ub:=u2);have hle:=ub.le;clear u2)|((first|rw[aR]|rw[bF]);with_reducible refine FH _ (hx.up aH) _ λh2 n2 u2=>?_;(first|replace ub:=Up.trans ub (Up.trans aH u2)|have ub:=u2);have hle:=ub.le;clear u2)|(refine aS ?_ ?_<;>(intro hb hd;rw[hb];clear hb))|(with_reducible refine aj ?_))
   any_goals(first|(with_reducible refine dh hQ ?_ aH;first|(simp[fU,xg,xk,Ib,Ab,Ac,ieq];done)|(simp[fU,xg,xk,Ib,Ab,Ac,ieq];omega)|(simp_all [fU,xg,xk,Ib,Ab,Ac,ieq];done)|(simp_all [fU,xg,xk,Ib,Ab,Ac,ieq];omega))|((with_reducible refine gI hQ aH (λhz=>?_) (λhz=>?_))<;>first|(simp_all [fU,xg,xk,Ib,Ab,Ac,ieq];done)|(simp_all [fU,xg,xk,Ib,Ab,Ac,ieq];omega)))
  .repeat' (first|(simp (disch:=omega) only[go_sem,simprocAttr,ub.old,g2,dP.av,hb])|(simp (disch:=omega) only[go_sem,simprocAttr,g2,dP.av,hb])|((first|rw[aR]|rw[bF]);with_reducible refine Ay _ u.factor λh2 n2 u2=>?_;(first|replace ub:=Up.trans ub (Up.trans aH u2)|have ub:=u2);have hle:=ub.le;clear u2)|((first|rw[aR]|rw[bF]);with_reducible refine FH _ (hx.up aH) _ λh2 n2 u2=>?_;(first|replace ub:=Up.trans ub (Up.trans aH u2)|have ub:=u2);have hle:=ub.le;clear u2)|(refine aS ?_ ?_<;>(intro hb hd;rw[hb];clear hb))|(with_reducible refine aj ?_))
   any_goals(first|(with_reducible refine dh hQ ?_ aH;first|(simp[fU,xg,xk,ieq];done)|(simp[fU,xg,xk,ieq];omega)|(simp_all [fU,xg,xk,ieq];done)|(simp_all [fU,xg,xk,ieq];omega))|((with_reducible refine gI hQ aH (λhz=>?_) (λhz=>?_))<;>first|(simp_all [fU,xg,xk,ieq];done)|(simp_all [fU,xg,xk,ieq];omega)))
theorem Pp(K:Nat)(hx:SL h n 5 x dP.av us)(hl:us.length<=1000)(hQ:∀i h' n',Up h n h' n'->Q (.bJ [.i .i64 i,.b (oz us)]) h' n'):CW (EF (K+4)) 162 [x] h n Q:=by
 refine aC c168 rfl ?_;repeat' (first|(simp (disch:=omega) only[go_sem,simprocAttr,ub.old,XU,hx.len])|(simp (disch:=omega) only[go_sem,simprocAttr,XU,hx.len])|(refine aS ?_ ?_<;>(intro hb hd;rw[hb];clear hb))|(with_reducible refine aj ?_))
 refine gP us.length (λk=>∀i u,i<k->us[i]?=some u->fU us i u=true) h n (λk=>[(0,x),(3,.b false)]) (by omega) (by omega) (by omega) (by omega) (λ_=>⟨rfl,rfl⟩) rfl rfl (by(repeat' (first|exact aO|refine aM rfl ?_))) aH (by omega) (λk h' n' hk hr u1=>?_) (λh' n' hr u1=>?_)
 .obtain⟨u,hu⟩:∃u,us[k]?=some u:=⟨us[k],List.getElem?_eq_some_iff.2 ⟨hk,rfl⟩⟩
  repeat' (first|(simp (disch:=omega) only[go_sem,simprocAttr,ub.old])|(simp (disch:=omega) only[go_sem,simprocAttr])|((first|rw[aR]|rw[bF]);with_reducible refine Tm _ (hx.up aH) hl hu λh2 n2 u2=>?_;(first|replace ub:=Up.trans ub (Up.trans aH u2)|have ub:=u2);have hle:=ub.le;clear u2)|(refine aS ?_ ?_<;>(intro hb hd;rw[hb];clear hb))|(with_reducible refine aj ?_))
  .rw[show AV.b false=AV.b (oz us) by
    congr 1;symm;unfold oz;rw[List.all_eq_false];exact⟨k,List.mem_range.2 hk,by rw[hu];simp[hd]⟩]
   exact hQ _ _ _ aH
  .refine iO rfl rfl (λj w' hj hw'=>?_) aH (by(repeat' (first|exact aO|refine aM rfl ?_)))
   by_cases e:j=k
   .subst e;rw[hu]at hw';cases hw';exact hd
   .exact hr j w' (by omega) hw'
 .repeat' (first|(simp (disch:=omega) only[go_sem,simprocAttr,ub.old])|(simp (disch:=omega) only[go_sem,simprocAttr])|(refine aS ?_ ?_<;>(intro hb hd;rw[hb];clear hb))|(with_reducible refine aj ?_))
  rw[show AV.b true=AV.b (oz us) by
   congr 1;symm;unfold oz;rw[List.all_eq_true];intro i hi;have hi:=List.mem_range.1 hi;obtain⟨u,hu⟩:∃u,us[i]?=some u:=⟨us[i],List.getElem?_eq_some_iff.2 ⟨hi,rfl⟩⟩;rw[hu];exact hr i u hi hu]
  exact hQ _ _ _ aH
end
end
section
noncomputable section
set_option maxHeartbeats 4000000
variable {h:AH} {n:Nat} {Q:AV->AH->Nat->Prop} {v:CS} {C:ay}
theorem LU(K:Nat)(hC:aY h n v C)(hc:C.clauses.length<=1000){i:Nat}{k:aG}(hk:C.clauses[i]?=some k)(hQ:∀h' n',Up h n h' n'->Q (.b (C.cO i k)) h' n'):CW (EF (K+4)) 94 [.agg (v.av C),.i .i64 (i:Nat)] h n Q:=by
 have hil:=(List.getElem?_eq_some_iff.1 hk).1;refine aC c93 rfl ?_;repeat' (first|(simp (disch:=omega) only[go_sem,simprocAttr,ub.old,m93,CS.av])|(simp (disch:=omega) only[go_sem,simprocAttr,m93,CS.av])|(refine aS ?_ ?_<;>(intro hb hd;rw[hb];clear hb))|(with_reducible refine aj ?_))
 refine oF hC (by omega) (by omega) λb o k' t ha hb hst rd=>?_;rw[show((i:Nat):Int).toNat=i by omega,hk]at ha;cases ha;repeat' (first|(simp (disch:=omega) only[go_sem,simprocAttr,ub.old,rd.el,rd.hd,rd.all,aG.av,hC.acts.len,hst.len])|(simp (disch:=omega) only[go_sem,simprocAttr,rd.el,rd.hd,rd.all,aG.av,hC.acts.len,hst.len])|((first|rw[aR]|rw[bF]);with_reducible refine Ti _ (hC.up aH) k t λh2 n2 u2=>?_;(first|replace ub:=Up.trans ub (Up.trans aH u2)|have ub:=u2);have hle:=ub.le;clear u2)|(refine aS ?_ ?_<;>(intro hb hd;rw[hb];clear hb))|(with_reducible refine aj ?_))
 any_goals(first|(with_reducible refine dh hQ ?_ aH;first|(simp[ay.cO,tH,ieq];done)|(simp[ay.cO,tH,ieq];omega)|(simp_all [ay.cO,tH,ieq];done)|(simp_all [ay.cO,tH,ieq];omega))|((with_reducible refine gI hQ aH (λhz=>?_) (λhz=>?_))<;>first|(simp_all [ay.cO,tH,ieq];done)|(simp_all [ay.cO,tH,ieq];omega)))
 have hc1:tH C k.kind k.role k.act k.need k.gK k.after k.final k.start.length=true:=by simp_all [tH]
 have g1:h2.get n=some (.row 27 (v.av C)):=by simp (disch:=omega) only[go_sem,simprocAttr,ub.old]
 have g2:h2.get (n+1)=some (.row 122 (k.av t)):=by simp (disch:=omega) only[go_sem,simprocAttr,ub.old]
 have u0:Up h n h2 n2:=by exact aH
 clear ub;refine gP k.start.length (λm=>∀j s,j<m->k.start[j]?=some s->vG C i s.clause s.is=true) h2 n2 (λm=>[(1,.i .i64 (i:Nat)),(2,.p n 0),(4,.b false),(5,.p (n+1) 0),(45,t)]) (by omega) (by omega) (by omega) (by omega) (λ_=>⟨rfl,rfl⟩) rfl rfl (by(repeat' (first|exact aO|refine aM rfl ?_))) aH (by omega) (λm h' n' hm hr u1=>?_) (λh' n' hr u1=>?_)
 .have g3:=(u1.old n (by omega)).trans g1
  have ule:=u1.le;repeat' (first|(simp (disch:=omega) only[go_sem,simprocAttr,ub.old])|(simp (disch:=omega) only[go_sem,simprocAttr])|(refine aS ?_ ?_<;>(intro hb hd;rw[hb];clear hb))|(with_reducible refine aj ?_))
  refine iD hst (by omega) (by omega) (by omega) λb2 o2 w hw hbn eP=>?_;rw[show((m:Nat):Int).toNat=m by omega]at hw;have ua:=(u1.old b2 (by omega)).trans (u0.old b2 hbn);repeat' (first|(simp (disch:=omega) only[go_sem,simprocAttr,ub.old,eP.el,eP.hd,eP.all,ua,g3,bU.av,CS.av,hC.lk])|(simp (disch:=omega) only[go_sem,simprocAttr,eP.el,eP.hd,eP.all,ua,g3,bU.av,CS.av,hC.lk])|(refine aS ?_ ?_<;>(intro hb hd;rw[hb];clear hb))|(with_reducible refine aj ?_))
  all_goals first
   |(
    refine dh hQ ?_ aH;have:rJ C i k.start=false:=by
     unfold rJ;rw[List.all_eq_false];exact⟨w,List.mem_of_getElem? hw,by simp[vG];omega⟩
    simp[ay.cO,this])
   |(
    refine iO rfl rfl (λj w' hj hw'=>?_) aH (by(repeat' (first|exact aO|refine aM rfl ?_)));by_cases e:j=m
    .subst e;rw[hw]at hw';cases hw';simp[vG,ieq];omega
    .exact hr j w' (by omega) hw')
 .have g3:=(u1.old n (by omega)).trans g1
  have g4:=(u1.old (n+1) (by omega)).trans g2;have ule:=u1.le;have hcs:rJ C i k.start=true:=by
   unfold rJ;rw[List.all_eq_true];intro w hw;obtain⟨j,hj⟩:=List.getElem?_of_mem hw;exact hr j w (List.getElem?_eq_some_iff.1 hj).1 hj
  repeat' (first|(simp (disch:=omega) only[go_sem,simprocAttr,ub.old,g3,g4,aG.av,CS.av,hC.units.len])|(simp (disch:=omega) only[go_sem,simprocAttr,g3,g4,aG.av,CS.av,hC.units.len])|((first|rw[aR]|rw[bF]);with_reducible refine Aw _ (hC.up aH) _ λh2 n2 u2=>?_;(first|replace ub:=Up.trans ub (Up.trans aH u2)|have ub:=u2);have hle:=ub.le;clear u2)|((first|rw[aR]|rw[bF]);with_reducible refine Kv _ λh2 n2 u2=>?_;(first|replace ub:=Up.trans ub (Up.trans aH u2)|have ub:=u2);have hle:=ub.le;clear u2)|((first|rw[aR]|rw[bF]);with_reducible refine qL _ k.value λh2 n2 u2=>?_;(first|replace ub:=Up.trans ub (Up.trans aH u2)|have ub:=u2);have hle:=ub.le;clear u2)|((first|rw[aR]|rw[bF]);with_reducible refine oI _ (hC.up aH) _ λh2 n2 u2=>?_;(first|replace ub:=Up.trans ub (Up.trans aH u2)|have ub:=u2);have hle:=ub.le;clear u2)|(refine aS ?_ ?_<;>(intro hb hd;rw[hb];clear hb))|(with_reducible refine aj ?_))
  any_goals(first|(with_reducible refine dh hQ ?_ aH;first|(simp[ay.cO,lS,ni,bA.zero,ieq];done)|(simp[ay.cO,lS,ni,bA.zero,ieq];omega)|(simp_all [ay.cO,lS,ni,bA.zero,ieq];done)|(simp_all [ay.cO,lS,ni,bA.zero,ieq];omega))|((with_reducible refine gI hQ aH (λhz=>?_) (λhz=>?_))<;>first|(simp_all [ay.cO,lS,ni,bA.zero,ieq];done)|(simp_all [ay.cO,lS,ni,bA.zero,ieq];omega)))
  all_goals
   refine iD hC.units (by omega) (by omega) (by omega) λb3 o3 z hz hb3 nA=>?_;have ua:=(u1.old b3 (by omega)).trans (u0.old b3 hb3);have hz2:C.Aa k.unit=z.kind:=by unfold ay.Aa;rw[if_pos (by omega),hz];rfl
   repeat' (first|(simp (disch:=omega) only[go_sem,simprocAttr,ub.old,g3,g4,aG.av,dP.av,CS.av,nA.el,nA.hd,ua])|(simp (disch:=omega) only[go_sem,simprocAttr,g3,g4,aG.av,dP.av,CS.av,nA.el,nA.hd,ua])|((first|rw[aR]|rw[bF]);with_reducible refine qL _ k.value λh2 n2 u2=>?_;(first|replace ub:=Up.trans ub (Up.trans aH u2)|have ub:=u2);have hle:=ub.le;clear u2)|((first|rw[aR]|rw[bF]);with_reducible refine oI _ (hC.up aH) _ λh2 n2 u2=>?_;(first|replace ub:=Up.trans ub (Up.trans aH u2)|have ub:=u2);have hle:=ub.le;clear u2)|(refine aS ?_ ?_<;>(intro hb hd;rw[hb];clear hb))|(with_reducible refine aj ?_))
   all_goals(first|(with_reducible refine dh hQ ?_ aH;first|(simp[ay.cO,lS,ni,bA.zero,ieq];done)|(simp[ay.cO,lS,ni,bA.zero,ieq];omega)|(simp_all [ay.cO,lS,ni,bA.zero,ieq];done)|(simp_all [ay.cO,lS,ni,bA.zero,ieq];omega))|((with_reducible refine gI hQ aH (λhz=>?_) (λhz=>?_))<;>first|(simp_all [ay.cO,lS,ni,bA.zero,ieq];done)|(simp_all [ay.cO,lS,ni,bA.zero,ieq];omega)))
def uw(l:List Int)(k:Nat):Int:=if k=0 then -1 else(l[k - 1]?).getD 0
theorem LV(K:Nat)(hC:aY h n v C)(hl:C.over=false)(ho:C.off.length<=1000000)(hQ:∀h' n',Up h n h' n'->Q (.b C.framed) h' n'):CW (EF (K+5)) 93 [.agg (v.av C)] h n Q:=by
 simp only[ay.over,Bool.or_eq_false_iff,decide_eq_false_iff_not]at hl;refine aC c92 rfl ?_;repeat' (first|(simp (disch:=omega) only[go_sem,simprocAttr,ub.old,m92,CS.av,hC.ah.len])|(simp (disch:=omega) only[go_sem,simprocAttr,m92,CS.av,hC.ah.len])|((first|rw[aR]|rw[bF]);with_reducible refine Tj _ (hC.up aH) (by omega) (by omega) (by omega) λh2 n2 u2=>?_;(first|replace ub:=Up.trans ub (Up.trans aH u2)|have ub:=u2);have hle:=ub.le;clear u2)|(refine aS ?_ ?_<;>(intro hb hd;rw[hb];clear hb))|(with_reducible refine aj ?_))
 any_goals(first|(with_reducible refine dh hQ ?_ aH;first|(simp[ay.framed,RL,ieq];done)|(simp[ay.framed,RL,ieq];omega)|(simp_all [ay.framed,RL,ieq];done)|(simp_all [ay.framed,RL,ieq];omega))|((with_reducible refine gI hQ aH (λhz=>?_) (λhz=>?_))<;>first|(simp_all [ay.framed,RL,ieq];done)|(simp_all [ay.framed,RL,ieq];omega)))
 have hf1:RL C=true:=by simp_all [RL]
 have g1:h2.get n=some (.row 27 (v.av C)):=by simp (disch:=omega) only[go_sem,simprocAttr,ub.old]
 have u0:Up h n h2 n2:=by exact aH
 have hle0:=u0.le;clear ub;rw[aR];refine Pp _ (hC.units.up aH) (by omega) λui h3 n3 u3=>?_;have hle3:=u3.le;have g3:=(u3.old n (by omega)).trans g1;repeat' (first|(simp (disch:=omega) only[go_sem,simprocAttr,ub.old,g3,CS.av,hC.acts.len])|(simp (disch:=omega) only[go_sem,simprocAttr,g3,CS.av,hC.acts.len])|(refine aS ?_ ?_<;>(intro hb hd;rw[hb];clear hb))|(with_reducible refine aj ?_))
 any_goals(first|(with_reducible refine dh hQ ?_ aH;first|(simp[ay.framed,ieq];done)|(simp[ay.framed,ieq];omega)|(simp_all [ay.framed,ieq];done)|(simp_all [ay.framed,ieq];omega))|((with_reducible refine gI hQ aH (λhz=>?_) (λhz=>?_))<;>first|(simp_all [ay.framed,ieq];done)|(simp_all [ay.framed,ieq];omega)))
 have hu:oz C.units=true:=by assumption
 refine gP C.acts.length (λk=>∀j a,j<k->C.acts[j]?=some a->C.qw a=true) h3 n3 (λk=>[(1,.p n 0),(2,.b false),(38,v.a)]) (by omega) (by omega) (by omega) (by omega) (λ_=>⟨rfl,rfl⟩) rfl rfl (by(repeat' (first|exact aO|refine aM rfl ?_))) aH (by omega) (λk h4 n4 hk hr u4=>?_) (λh4 n4 hr u4=>?_)
 .have Pq:=u4.le
  have g4:=(u4.old n (by omega)).trans g3;repeat' (first|(simp (disch:=omega) only[go_sem,simprocAttr,ub.old])|(simp (disch:=omega) only[go_sem,simprocAttr])|(refine aS ?_ ?_<;>(intro hb hd;rw[hb];clear hb))|(with_reducible refine aj ?_))
  refine iD hC.acts (by omega) (by omega) (by omega) λb2 o2 w hw hbn eP=>?_;rw[show((k:Nat):Int).toNat=k by omega]at hw;have ua:=(u4.old b2 (by omega)).trans ((u3.old b2 (by omega)).trans (u0.old b2 hbn));repeat' (first|(simp (disch:=omega) only[go_sem,simprocAttr,ub.old,eP.el,eP.hd,eP.all,ua,g4,dM.av,CS.av])|(simp (disch:=omega) only[go_sem,simprocAttr,eP.el,eP.hd,eP.all,ua,g4,dM.av,CS.av])|((first|rw[aR]|rw[bF]);with_reducible refine XZ _ (hC.up aH) w λh2 n2 u2=>?_;(first|replace ub:=Up.trans ub (Up.trans aH u2)|have ub:=u2);have hle:=ub.le;clear u2)|(refine aS ?_ ?_<;>(intro hb hd;rw[hb];clear hb))|(with_reducible refine aj ?_))
  .refine dh hQ ?_ aH
   have:C.Ad=false:=by
    unfold ay.Ad;rw[List.all_eq_false];exact⟨w,List.mem_of_getElem? hw,by simp_all⟩
   simp[ay.framed,this]
  .refine iO rfl rfl (λj w' hj hw'=>?_) aH (by(repeat' (first|exact aO|refine aM rfl ?_)))
   by_cases e:j=k
   .subst e;rw[hw]at hw';cases hw';simp_all
   .exact hr j w' (by omega) hw'
 .have Pq:=u4.le
  have g4:=(u4.old n (by omega)).trans g3;have abI:C.Ad=true:=by
   unfold ay.Ad;rw[List.all_eq_true];intro w hw;obtain⟨j,hj⟩:=List.getElem?_of_mem hw;exact hr j w (List.getElem?_eq_some_iff.1 hj).1 hj
  repeat' (first|(simp (disch:=omega) only[go_sem,simprocAttr,ub.old,g4,CS.av,hC.off.len])|(simp (disch:=omega) only[go_sem,simprocAttr,g4,CS.av,hC.off.len])|(refine aS ?_ ?_<;>(intro hb hd;rw[hb];clear hb))|(with_reducible refine aj ?_))
  refine gP C.off.length (λk=>oU C.days (-1) C.off=oU C.days (uw C.off k) (C.off.drop k)) h4 n4 (λk=>[(1,.p n 0),(2,.b false),(7,.i .i64 (uw C.off k)),(50,v.o)]) (by omega) (by omega) (by omega) (by omega) (λ_=>⟨rfl,rfl⟩) rfl rfl (by(repeat' (first|exact aO|refine aM rfl ?_))) aH (by rw[List.drop_zero];rfl) (λk h5 n5 hk X3 u5=>?_) (λh5 n5 X3 u5=>?_)
  .have ap5:=u5.le
   have g5:=(u5.old n (by omega)).trans g4;repeat' (first|(simp (disch:=omega) only[go_sem,simprocAttr,ub.old])|(simp (disch:=omega) only[go_sem,simprocAttr])|(refine aS ?_ ?_<;>(intro hb hd;rw[hb];clear hb))|(with_reducible refine aj ?_))
   refine iD hC.off (by omega) (by omega) (by omega) λb2 o2 w hw hbn eP=>?_;rw[show((k:Nat):Int).toNat=k by omega]at hw;have ua:=(u5.old b2 (by omega)).trans ((u4.old b2 (by omega)).trans ((u3.old b2 (by omega)).trans (u0.old b2 hbn)));have hdr:C.off.drop k=w::C.off.drop (k+1):=by
    obtain⟨e1,e2⟩:=List.getElem?_eq_some_iff.1 hw;rw[List.drop_eq_getElem_cons e1,e2]
   rw[hdr,oU]at X3;repeat' (first|(simp (disch:=omega) only[go_sem,simprocAttr,ub.old,eP.el,eP.hd,eP.all,ua,g5,CS.av])|(simp (disch:=omega) only[go_sem,simprocAttr,eP.el,eP.hd,eP.all,ua,g5,CS.av])|(refine aS ?_ ?_<;>(intro hb hd;rw[hb];clear hb))|(with_reducible refine aj ?_))
   .refine dh hQ ?_ aH
    have:oU C.days (-1) C.off=false:=by rw[X3];simp_all
    simp[ay.framed,this]
   .refine dh hQ ?_ aH
    have:oU C.days (-1) C.off=false:=by rw[X3];simp_all
    simp[ay.framed,this]
   .have hl2:uw C.off (k+1)=w:=by unfold uw;rw[if_neg (by omega),Nat.add_sub_cancel,hw];rfl
    refine iO rfl rfl ?_ aH ?_
    .show _=oU C.days (uw C.off (k+1)) _
     have q1:¬w<=uw C.off k:=by assumption
     have q2:¬C.days<=w:=by assumption
     rw[hl2,X3];simp[q1,q2]
    .show∀m u,lk [(1,.p n 0),(2,.b false),(7,.i .i64 (uw C.off (k+1))),(50,v.o)] m=some u->_
     rw[hl2]
     (repeat' (first|exact aO|refine aM rfl ?_))
  .repeat' (first|(simp (disch:=omega) only[go_sem,simprocAttr,ub.old])|(simp (disch:=omega) only[go_sem,simprocAttr])|(refine aS ?_ ?_<;>(intro hb hd;rw[hb];clear hb))|(with_reducible refine aj ?_))
   refine dh hQ ?_ aH;have:oU C.days (-1) C.off=true:=by rw[X3,List.drop_length];rfl
   simp[ay.framed,this,hf1,hu,abI]
theorem qM(K:Nat)(hC:aY h n v C)(ho:C.off.length<=1000000)(hQ:∀i h' n',Up h n h' n'->Q (.bJ [.i .i64 C.errno,.i .i64 i]) h' n'):CW (EF (K+6)) 52 [.agg (v.av C)] h n Q:=by
 refine aC c44 rfl ?_;cases hov:C.over with
 |true=>
  have he:C.errno=3:=by simp[ay.errno,hov]
  rw[he]at hQ;repeat' (first|(simp (disch:=omega) only[go_sem,simprocAttr,ub.old,m44,CS.av,hC.ah.len,hC.units.len,hC.acts.len,hC.lk])|(simp (disch:=omega) only[go_sem,simprocAttr,m44,CS.av,hC.ah.len,hC.units.len,hC.acts.len,hC.lk])|(refine aS ?_ ?_<;>(intro hb hd;rw[hb];clear hb))|(with_reducible refine aj ?_))
  any_goals exact hQ _ _ _ aH
  all_goals(exfalso;simp[ay.over]at hov;omega)
 |false=>
  have hv:=hov;simp only[ay.over,Bool.or_eq_false_iff,decide_eq_false_iff_not]at hv;repeat' (first|(simp (disch:=omega) only[go_sem,simprocAttr,ub.old,m44,CS.av,hC.ah.len,hC.units.len,hC.acts.len,hC.lk])|(simp (disch:=omega) only[go_sem,simprocAttr,m44,CS.av,hC.ah.len,hC.units.len,hC.acts.len,hC.lk])|((first|rw[aR]|rw[bF]);with_reducible refine LV _ (hC.up aH) hov ho λh2 n2 u2=>?_;(first|replace ub:=Up.trans ub (Up.trans aH u2)|have ub:=u2);have hle:=ub.le;clear u2)|(refine aS ?_ ?_<;>(intro hb hd;rw[hb];clear hb))|(with_reducible refine aj ?_))
  any_goals(exfalso;omega)
  .have hf:C.framed=false:=by simp_all
   rw[show C.errno=1 by simp[ay.errno,hov,hf]]at hQ;exact hQ _ _ _ aH
  have hf:C.framed=true:=by simp_all
  have g1:h2.get n=some (.row 27 (v.av C)):=by simp (disch:=omega) only[go_sem,simprocAttr,ub.old]
  have u0:Up h n h2 n2:=by exact aH
  have hle0:=u0.le;clear ub;refine gP C.clauses.length (λk=>∀j a,j<k->C.clauses[j]?=some a->C.cO j a=true) h2 n2 (λk=>[(1,.p n 0)]) (by omega) (by omega) (by omega) (by omega) (λ_=>⟨rfl,rfl⟩) rfl rfl (by(repeat' (first|exact aO|refine aM rfl ?_))) aH (by omega) (λk h4 n4 hk hr u4=>?_) (λh4 n4 hr u4=>?_)
  .have Pq:=u4.le
   have g4:=(u4.old n (by omega)).trans g1;obtain⟨w,hw⟩:∃w,C.clauses[k]?=some w:=⟨C.clauses[k],List.getElem?_eq_some_iff.2 ⟨hk,rfl⟩⟩;repeat' (first|(simp (disch:=omega) only[go_sem,simprocAttr,ub.old,g4,CS.av])|(simp (disch:=omega) only[go_sem,simprocAttr,g4,CS.av])|((first|rw[aR]|rw[bF]);with_reducible refine LU _ (hC.up aH) (by omega) hw λh2 n2 u2=>?_;(first|replace ub:=Up.trans ub (Up.trans aH u2)|have ub:=u2);have hle:=ub.le;clear u2)|(refine aS ?_ ?_<;>(intro hb hd;rw[hb];clear hb))|(with_reducible refine aj ?_))
   .have:C.iW=false:=by
     unfold ay.iW;rw[List.all_eq_false];exact⟨k,List.mem_range.2 hk,by rw[hw];simp_all⟩
    rw[show C.errno=1 by simp[ay.errno,hov,hf,this]]at hQ;exact hQ _ _ _ aH
   .refine iO rfl rfl (λj w' hj hw'=>?_) aH (by(repeat' (first|exact aO|refine aM rfl ?_)))
    by_cases e:j=k
    .subst e;rw[hw]at hw';cases hw';simp_all
    .exact hr j w' (by omega) hw'
  .repeat' (first|(simp (disch:=omega) only[go_sem,simprocAttr,ub.old])|(simp (disch:=omega) only[go_sem,simprocAttr])|(refine aS ?_ ?_<;>(intro hb hd;rw[hb];clear hb))|(with_reducible refine aj ?_))
   have:C.iW=true:=by
    unfold ay.iW;rw[List.all_eq_true];intro i hi;have hi:=List.mem_range.1 hi;obtain⟨w,hw⟩:∃w,C.clauses[i]?=some w:=⟨C.clauses[i],List.getElem?_eq_some_iff.2 ⟨hi,rfl⟩⟩;rw[hw];exact hr i w hi hw
   rw[show C.errno=0 by simp[ay.errno,hov,hf,this]]at hQ;exact hQ _ _ _ aH
end
end
section
noncomputable section
set_option maxRecDepth 1000000
set_option maxHeartbeats 4000000
def abJ:MC:=vF 225
def c175:=vT 225 abJ
def m95:MC:=vF 138
def c95:=vT 138 m95
def m94:MC:=vF 127
def c94:=vT 127 m94
def abK:MC:=vF 211
def aic:=vT 211 abK
def abM:MC:=vF 257
def aie:=vT 257 abM
def m47:MC:=vF 83
def c47:=vT 83 m47
def X6:MC:=vF 146
def aii:=vT 146 X6
def abN:MC:=vF 32
def c109:=vT 32 abN
def abO:MC:=vF 187
def aij:=vT 187 abO
def abP:MC:=vF 188
def aik:=vT 188 abP
def X8:MC:=vF 123
def c234:=vT 123 X8
end
end
section
noncomputable section
set_option maxHeartbeats 4000000
variable {h:AH} {n:Nat} {Q:AV->AH->Nat->Prop} {v:CS} {C:ay} {tv:TS} {s:aI}
theorem Pt(a b c d:Int)(e:Bool)(a' b' c' d':Int)(e':Bool):(eB Tryz.prog 185 .eql).run (.agg [.i .i64 a,.i .i64 b,.i .i64 c,.i .i64 d,.b e]) (.agg [.i .i64 a',.i .i64 b',.i .i64 c',.i .i64 d',.b e'])=
 bnd (bc (gu a a') (bc (gu b b') (bc (gu c c') (bc (gu d d') (bc (bc e e' (qY e')) (some true) (some false)) (some false)) (some false)) (some false)) (some false)) λe=>some (.b e):=by kernel_rfl
@[go_sem] theorem afT (a b c d:Int) (e:Bool) (a' b' c' d':Int) (e':Bool):(eB Tryz.prog 185 .eql).run (.agg [.i .i64 a,.i .i64 b,.i .i64 c,.i .i64 d,.b e]) (.agg [.i .i64 a',.i .i64 b',.i .i64 c',.i .i64 d',.b e'])=
 some (.b (decide (a=a')&&(decide (b=b')&&(decide (c=c')&&(decide (d=d')&&(e==e')))))):=by
 rw[Pt,dz,dz,dz,dz];by_cases h1:a=a'<;>by_cases h2:b=b'<;>by_cases h3:c=c'<;>by_cases h4:d=d'<;>cases e<;>cases e'<;>simp[h1,h2,h3,h4,bc,bnd,qY]
theorem Ij(K:Nat)(m:aA)(hQ:∀h' n',Up h n h' n'->Q (.b m.runs) h' n'):CW (EF (K+1)) 257 [.agg m.av] h n Q:=by
 refine aC aie rfl ?_;repeat' (first|(simp (disch:=omega) only[go_sem,simprocAttr,abM,aA.av])|(refine aS ?_ ?_<;>(intro hb hd;rw[hb];clear hb))|(with_reducible refine aj ?_))
 all_goals(first|(with_reducible refine dh hQ ?_ aH;first|(simp[aA.runs,ieq];done)|(simp[aA.runs,ieq];omega)|(simp_all [aA.runs,ieq];done)|(simp_all [aA.runs,ieq];omega))|((with_reducible refine gI hQ aH (λhz=>?_) (λhz=>?_))<;>first|(simp_all [aA.runs,ieq];done)|(simp_all [aA.runs,ieq];omega)))
theorem X9(K:Nat)(k:aG)(t:AV)(m:aA)(hC:aY h n v C)(hQ:∀h' n',Up h n h' n'->Q (.b (kQ C k.kind k.need k.pause k.ji m.left m.got m.aT m.paused)) h' n')(hk:pO t=some [t]):CW (EF (K+1)) 225 [.agg (v.av C),.agg (k.av t),.agg m.av] h n Q:=by
 refine aC c175 rfl ?_;repeat' (first|(simp (disch:=omega) only[go_sem,simprocAttr,abJ,CS.av,aG.av,aA.av])|(refine aS ?_ ?_<;>(intro hb hd;rw[hb];clear hb))|(with_reducible refine aj ?_))
 any_goals(first|(with_reducible refine dh hQ ?_ aH;first|(simp[kQ,ieq];done)|(simp[kQ,ieq];omega)|(simp_all [kQ,ieq];done)|(simp_all [kQ,ieq];omega))|((with_reducible refine gI hQ aH (λhz=>?_) (λhz=>?_))<;>first|(simp_all [kQ,ieq];done)|(simp_all [kQ,ieq];omega)))
theorem Tn(K:Nat)(hC:aY h n v C){i:Nat}{k:aG}(hk:C.clauses[i]?=some k)(m:aA)(hQ:∀h' n',Up h n h' n'->Q (.b (C.kU k m)) h' n'):CW (EF (K+2)) 138 [.agg (v.av C),.i .i64 (i:Nat),.agg m.av] h n Q:=by
 have hil:=(List.getElem?_eq_some_iff.1 hk).1;refine aC c95 rfl ?_;repeat' (first|(simp (disch:=omega) only[go_sem,simprocAttr,ub.old,m95,CS.av,aA.av])|(simp (disch:=omega) only[go_sem,simprocAttr,m95,CS.av,aA.av])|(refine aS ?_ ?_<;>(intro hb hd;rw[hb];clear hb))|(with_reducible refine aj ?_))
 refine oF hC (by omega) (by omega) λb o k' t ha hb hst rd=>?_;rw[show((i:Nat):Int).toNat=i by omega,hk]at ha;cases ha;repeat' (first|(simp (disch:=omega) only[go_sem,simprocAttr,ub.old,rd.el,rd.hd,rd.all,aG.av,aA.av])|(simp (disch:=omega) only[go_sem,simprocAttr,rd.el,rd.hd,rd.all,aG.av,aA.av])|((first|rw[aR]|rw[bF]);with_reducible refine X9 _ k t m (hC.up aH) (λh2 n2 u2=>?_) hst.cl;(first|replace ub:=Up.trans ub (Up.trans aH u2)|have ub:=u2);have hle:=ub.le;clear u2)|(refine aS ?_ ?_<;>(intro hb hd;rw[hb];clear hb))|(with_reducible refine aj ?_))
 any_goals(first|(with_reducible refine dh hQ ?_ aH;first|(simp[ay.kU,lT,qx,ieq];done)|(simp[ay.kU,lT,qx,ieq];omega)|(simp_all [ay.kU,lT,qx,ieq];done)|(simp_all [ay.kU,lT,qx,ieq];omega))|((with_reducible refine gI hQ aH (λhz=>?_) (λhz=>?_))<;>first|(simp_all [ay.kU,lT,qx,ieq];done)|(simp_all [ay.kU,lT,qx,ieq];omega)))
theorem Az(K:Nat)(hC:aY h n v C)(hS:bI h n tv s){i:Nat}{k:aG}{m:aA}(hk:C.clauses[i]?=some k)(hm:s.marks[i]?=some m)(hl:k.start.length<=1000)(hc:∀c∈k.start,0<=c.clause/\c.clause<s.marks.length)
 (hQ:∀h' n',Up h n h' n'->Q (.b (dO s.marks k m)) h' n'):CW (EF (K+1)) 127 [.agg (v.av C),.agg (tv.av s),.i .i64 (i:Nat)] h n Q:=by
 have hil:=(List.getElem?_eq_some_iff.1 hk).1;have him:=(List.getElem?_eq_some_iff.1 hm).1;refine aC c94 rfl ?_;repeat' (first|(simp (disch:=omega) only[go_sem,simprocAttr,m94,CS.av,TS.av])|(refine aS ?_ ?_<;>(intro hb hd;rw[hb];clear hb))|(with_reducible refine aj ?_))
 refine iD hS.marks (by omega) (by omega) (by omega) λb o m' ha hb rd=>?_;rw[show((i:Nat):Int).toNat=i by omega,hm]at ha;cases ha;repeat' (first|(simp (disch:=omega) only[go_sem,simprocAttr,rd.el,rd.hd,aA.av])|(refine aS ?_ ?_<;>(intro hb hd;rw[hb];clear hb))|(with_reducible refine aj ?_))
 any_goals(first|(with_reducible refine dh hQ ?_ aH;first|(simp[dO,ieq];done)|(simp[dO,ieq];omega)|(simp_all [dO,ieq];done)|(simp_all [dO,ieq];omega))|((with_reducible refine gI hQ aH (λhz=>?_) (λhz=>?_))<;>first|(simp_all [dO,ieq];done)|(simp_all [dO,ieq];omega)))
 all_goals(refine oF hC (by omega) (by omega) λb2 o2 k' t ha hb2 hst eP=>?_)
 all_goals(rw[show((i:Nat):Int).toNat=i by omega,hk]at ha;cases ha)
 all_goals repeat' (first|(simp (disch:=omega) only[go_sem,simprocAttr,eP.el,eP.hd,aG.av,hst.len])|(refine aS ?_ ?_<;>(intro hb hd;rw[hb];clear hb))|(with_reducible refine aj ?_))
 any_goals(first|(with_reducible refine dh hQ ?_ aH;first|(simp[dO,ieq];done)|(simp[dO,ieq];omega)|(simp_all [dO,ieq];done)|(simp_all [dO,ieq];omega))|((with_reducible refine gI hQ aH (λhz=>?_) (λhz=>?_))<;>first|(simp_all [dO,ieq];done)|(simp_all [dO,ieq];omega)))
 refine oF hC (by omega) (by omega) λb3 o3 k' t ha hb3 hst nA=>?_;rw[show((i:Nat):Int).toNat=i by omega,hk]at ha;cases ha;repeat' (first|(simp (disch:=omega) only[go_sem,simprocAttr,nA.el,nA.hd,aG.av,hst.len])|(refine aS ?_ ?_<;>(intro hb hd;rw[hb];clear hb))|(with_reducible refine aj ?_))
 have h0:m.status=0:=by assumption
 have hw:k.ji=false:=by assumption
 generalize hh:Tr.set (Tr.set h n _) (n+1) _=hb0;have u0:Up h n hb0 (n+1+1):=by rw[<-hh];exact aH
 have g1:hb0.get (n+1)=some (.row 77 (tv.av s)):=by rw[<-hh];exact vE
 clear hh;refine gP k.start.length (λq=>∀j c,j<q->k.start[j]?=some c->eF s.marks c=true) hb0 (n+1+1) (λq=>[(4,.p (n+1) 0),(6,.b false),(31,t)]) (by omega) (by omega) (by omega) (by omega) (λ_=>⟨rfl,rfl⟩) rfl rfl (by(repeat' (first|exact aO|refine aM rfl ?_))) aH (by omega) (λq h4 n4 hq hr u4=>?_) (λh4 n4 hr u4=>?_)
 .have Pq:=u4.le
  have g4:=(u4.old (n+1) (by omega)).trans g1;repeat' (first|(simp (disch:=omega) only[go_sem,simprocAttr])|(refine aS ?_ ?_<;>(intro hb hd;rw[hb];clear hb))|(with_reducible refine aj ?_))
  refine iD hst (by omega) (by omega) (by omega) λb5 o5 w hw5 hb5 sO=>?_;rw[show((q:Nat):Int).toNat=q by omega]at hw5;have hcw:=hc w (List.mem_of_getElem? hw5);have ua:=(u4.old b5 (by omega)).trans (u0.old b5 hb5);repeat' (first|(simp (disch:=omega) only[go_sem,simprocAttr,sO.el,sO.hd,sO.all,ua,g4,bU.av,TS.av])|(refine aS ?_ ?_<;>(intro hb hd;rw[hb];clear hb))|(with_reducible refine aj ?_))
  refine iD hS.marks (by omega) (by omega) (by omega) λb6 o6 m6 hm6 hb6 Tp=>?_;have ub6:=(u4.old b6 (by omega)).trans (u0.old b6 hb6);have aqa:kV s.marks w.clause=m6.status:=by unfold kV;rw[hm6];rfl
  repeat' (first|(simp (disch:=omega) only[go_sem,simprocAttr,Tp.el,Tp.hd,ub6,aA.av])|(refine aS ?_ ?_<;>(intro hb hd;rw[hb];clear hb))|(with_reducible refine aj ?_))
  all_goals first
   |(
    refine dh hQ ?_ aH;have:gZ s.marks k.start=false:=by
     unfold gZ;rw[List.all_eq_false];exact⟨w,List.mem_of_getElem? hw5,by simp_all [eF,uj,ieq]⟩
    simp[dO,this])
   |(
    refine iO rfl rfl (λj w' hj hw'=>?_) aH (by(repeat' (first|exact aO|refine aM rfl ?_)));by_cases e:j=q
    .subst e;rw[hw5]at hw';cases hw';simp_all [eF,uj,ieq]
    .exact hr j w' (by omega) hw')
 .repeat' (first|(simp (disch:=omega) only[go_sem,simprocAttr])|(refine aS ?_ ?_<;>(intro hb hd;rw[hb];clear hb))|(with_reducible refine aj ?_))
  refine dh hQ ?_ aH;have:gZ s.marks k.start=true:=by
   unfold gZ;rw[List.all_eq_true];intro w hw;obtain⟨j,hj⟩:=List.getElem?_of_mem hw;exact hr j w (List.getElem?_eq_some_iff.1 hj).1 hj
  simp[dO,h0,hw,this]
end
end
section
noncomputable section
set_option maxHeartbeats 4000000
variable {h:AH} {n:Nat} {Q:AV->AH->Nat->Prop} {v:CS} {C:ay} {tv:TS} {s:aI}
theorem oJ(C:ay):(C.errno=0)=(C.valid=true):=by
 unfold ay.errno ay.valid;cases C.over<;>cases (C.framed&&C.iW)<;>simp
theorem gJ(K:Nat)(hC:aY h n v C)(ho:C.off.length<=1000000)(hS:bI h n tv s)(hQ:∀h' n',Up h n h' n'->Q (.b (C.dB s)) h' n'):CW (EF (K+7)) 83 [.agg (v.av C),.agg (tv.av s)] h n Q:=by
 refine aC c47 rfl ?_;repeat' (first|(simp (disch:=omega) only[go_sem,simprocAttr,ub.old,m47,CS.av,TS.av])|(simp (disch:=omega) only[go_sem,simprocAttr,m47,CS.av,TS.av])|(refine aS ?_ ?_<;>(intro hb hd;rw[hb];clear hb))|(with_reducible refine aj ?_))
 rw[aR];refine qM _ (hC.up aH) ho λei h2 n2 u2=>?_;have ub:=u2;have hle:=ub.le;repeat' (first|(simp (disch:=omega) only[go_sem,simprocAttr,ub.old,CS.av,TS.av,hS.ah.len,hS.used.len,hS.marks.len,hC.ah.len,hC.acts.len,hC.lk])|(simp (disch:=omega) only[go_sem,simprocAttr,CS.av,TS.av,hS.ah.len,hS.used.len,hS.marks.len,hC.ah.len,hC.acts.len,hC.lk])|(refine aS ?_ ?_<;>(intro hb hd;rw[hb];clear hb))|(with_reducible refine aj ?_))
 any_goals(first|(with_reducible refine dh hQ ?_ aH;first|(simp[ay.dB,Nt,oJ,ieq];done)|(simp[ay.dB,Nt,oJ,ieq];omega)|(simp_all [ay.dB,Nt,oJ,ieq];done)|(simp_all [ay.dB,Nt,oJ,ieq];omega))|((with_reducible refine gI hQ aH (λhz=>?_) (λhz=>?_))<;>first|(simp_all [ay.dB,Nt,oJ,ieq];done)|(simp_all [ay.dB,Nt,oJ,ieq];omega)))
 have hv:C.valid=true:=by rw[<-oJ];assumption
 have hs1:Nt C s=true:=by simp_all [Nt]
 have hO:=ay.ok hv;have q1:=hO.jm;have q2:=hO.iX;have q3:=hO.dJ;have hs2:=hs1;simp only[Nt,Bool.and_eq_true,Bool.not_eq_true',decide_eq_false_iff_not,beq_iff_eq]at hs2;have g1:h2.get n=some (.row 27 (v.av C)):=by simp (disch:=omega) only[go_sem,simprocAttr,ub.old]
 have g2:h2.get (n+1)=some (.row 77 (tv.av s)):=by simp (disch:=omega) only[go_sem,simprocAttr,ub.old]
 have u0:Up h n h2 n2:=by exact aH
 clear ub u2;refine gP s.ah.length (λk=>∀j a,j<k->s.ah[j]?=some a->xu C a=true) h2 n2 (λk=>[(2,.p n 0),(3,.p (n+1) 0),(4,.b false),(57,tv.h)]) (by omega) (by omega) (by omega) (by omega) (λ_=>⟨rfl,rfl⟩) rfl rfl (by(repeat' (first|exact aO|refine aM rfl ?_))) aH (by omega) (λk h4 n4 hk hr u4=>?_) (λh4 n4 hr u4=>?_)
 .have Pq:=u4.le
  have g4:=(u4.old n (by omega)).trans g1;repeat' (first|(simp (disch:=omega) only[go_sem,simprocAttr,ub.old])|(simp (disch:=omega) only[go_sem,simprocAttr])|(refine aS ?_ ?_<;>(intro hb hd;rw[hb];clear hb))|(with_reducible refine aj ?_))
  refine iD hS.ah (by omega) (by omega) (by omega) λb5 o5 w hw hb5 sO=>?_;rw[show((k:Nat):Int).toNat=k by omega]at hw;have ua:=(u4.old b5 (by omega)).trans (u0.old b5 hb5);repeat' (first|(simp (disch:=omega) only[go_sem,simprocAttr,ub.old,sO.el,sO.hd,sO.all,ua,g4,CS.av])|(simp (disch:=omega) only[go_sem,simprocAttr,sO.el,sO.hd,sO.all,ua,g4,CS.av])|(refine aS ?_ ?_<;>(intro hb hd;rw[hb];clear hb))|(with_reducible refine aj ?_))
  all_goals first
   |(
    refine dh hQ ?_ aH;have:kY C s=false:=by
     unfold kY;rw[List.all_eq_false];exact⟨w,List.mem_of_getElem? hw,by simp_all [xu]⟩
    simp[ay.dB,this])
   |(
    refine iO rfl rfl (λj w' hj hw'=>?_) aH (by(repeat' (first|exact aO|refine aM rfl ?_)));by_cases e:j=k
    .subst e;rw[hw]at hw';cases hw';simp_all [xu]
    .exact hr j w' (by omega) hw')
 have hH:kY C s=true:=by
  unfold kY;rw[List.all_eq_true];intro w hw;obtain⟨j,hj⟩:=List.getElem?_of_mem hw;exact hr j w (List.getElem?_eq_some_iff.1 hj).1 hj
 have Pq:=u4.le;have g4:=(u4.old n (by omega)).trans g1;have g5:=(u4.old (n+1) (by omega)).trans g2;repeat' (first|(simp (disch:=omega) only[go_sem,simprocAttr,ub.old,g4,g5,CS.av,TS.av,hS.used.len])|(simp (disch:=omega) only[go_sem,simprocAttr,g4,g5,CS.av,TS.av,hS.used.len])|(refine aS ?_ ?_<;>(intro hb hd;rw[hb];clear hb))|(with_reducible refine aj ?_))
 refine gP s.used.length (λk=>∀j u a,j<k->s.used[j]?=some u->C.acts[j]?=some a->(u&&(a.kind==1))=false) h4 n4 (λk=>[(2,.p n 0),(3,.p (n+1) 0),(4,.b false),(73,tv.u)]) (by omega) (by omega) (by omega) (by omega) (λ_=>⟨rfl,rfl⟩) rfl rfl (by(repeat' (first|exact aO|refine aM rfl ?_))) aH (by omega) (λk h6 n6 hk X_ u6=>?_) (λh6 n6 X_ u6=>?_)
 .have ail:=u6.le
  have g6:=(u6.old n (by omega)).trans g4;repeat' (first|(simp (disch:=omega) only[go_sem,simprocAttr,ub.old])|(simp (disch:=omega) only[go_sem,simprocAttr])|(refine aS ?_ ?_<;>(intro hb hd;rw[hb];clear hb))|(with_reducible refine aj ?_))
  refine iD hS.used (by omega) (by omega) (by omega) λb5 o5 w hw hb5 sO=>?_;rw[show((k:Nat):Int).toNat=k by omega]at hw;have ua:=(u6.old b5 (by omega)).trans ((u4.old b5 (by omega)).trans (u0.old b5 hb5));obtain⟨a,ha⟩:∃a,C.acts[k]?=some a:=⟨C.acts[k],List.getElem?_eq_some_iff.2 ⟨by omega,rfl⟩⟩;repeat' (first|(simp (disch:=omega) only[go_sem,simprocAttr,ub.old,sO.el,sO.hd,sO.all,ua,g6,CS.av])|(simp (disch:=omega) only[go_sem,simprocAttr,sO.el,sO.hd,sO.all,ua,g6,CS.av])|(refine aS ?_ ?_<;>(intro hb hd;rw[hb];clear hb))|(with_reducible refine aj ?_))
  .have hwt:w=true:=by assumption
   refine iD hC.acts (by omega) (by omega) (by omega) λb7 o7 a7 ha7 hb7 ZX=>?_;rw[show((k:Nat):Int).toNat=k by omega,ha]at ha7;cases ha7;have ua7:=(u6.old b7 (by omega)).trans ((u4.old b7 (by omega)).trans (u0.old b7 hb7));repeat' (first|(simp (disch:=omega) only[go_sem,simprocAttr,ub.old,ZX.el,ZX.hd,ua7,dM.av])|(simp (disch:=omega) only[go_sem,simprocAttr,ZX.el,ZX.hd,ua7,dM.av])|(refine aS ?_ ?_<;>(intro hb hd;rw[hb];clear hb))|(with_reducible refine aj ?_))
   .refine dh hQ ?_ aH
    have:Ae C s=false:=by
     unfold Ae;rw[List.all_eq_false];exact⟨k,List.mem_range.2 hk,by rw[hw,ha];simp_all⟩
    simp[ay.dB,this]
   .refine iO rfl rfl (λj u' a' hj hu' ha'=>?_) aH (by(repeat' (first|exact aO|refine aM rfl ?_)))
    by_cases e:j=k
    .subst e;rw[hw]at hu';cases hu';rw[ha]at ha';cases ha';simp_all
    .exact X_ j u' a' (by omega) hu' ha'
  .have hwf:w=false:=by assumption
   refine iO rfl rfl (λj u' a' hj hu' ha'=>?_) aH (by(repeat' (first|exact aO|refine aM rfl ?_)));by_cases e:j=k
   .subst e;rw[hw]at hu';cases hu';simp[hwf]
   .exact X_ j u' a' (by omega) hu' ha'
 have hU:Ae C s=true:=by
  unfold Ae;rw[List.all_eq_true];intro i hi;have hi:=List.mem_range.1 hi;obtain⟨w,hw⟩:∃w,s.used[i]?=some w:=⟨s.used[i],List.getElem?_eq_some_iff.2 ⟨hi,rfl⟩⟩;obtain⟨a,ha⟩:∃a,C.acts[i]?=some a:=⟨C.acts[i],List.getElem?_eq_some_iff.2 ⟨by omega,rfl⟩⟩;rw[hw,ha];simp only[X_ i w a hi hw ha,Bool.not_false]
 have ail:=u6.le;have g6:=(u6.old n (by omega)).trans g4;have g7:=(u6.old (n+1) (by omega)).trans g5;repeat' (first|(simp (disch:=omega) only[go_sem,simprocAttr,ub.old,g6,g7,CS.av,TS.av,hS.marks.len])|(simp (disch:=omega) only[go_sem,simprocAttr,g6,g7,CS.av,TS.av,hS.marks.len])|(refine aS ?_ ?_<;>(intro hb hd;rw[hb];clear hb))|(with_reducible refine aj ?_))
 refine gP s.marks.length (λk=>∀j m c,j<k->s.marks[j]?=some m->C.clauses[j]?=some c->(C.kU c m&& !(dO s.marks c m))=true) h6 n6 (λk=>[(2,.p n 0),(3,.p (n+1) 0),(4,.b false)]) (by omega) (by omega) (by omega) (by omega) (λ_=>⟨rfl,rfl⟩) rfl rfl (by(repeat' (first|exact aO|refine aM rfl ?_))) aH (by omega) (λk h8 n8 hk hr8 u8=>?_) (λh8 n8 hr8 u8=>?_)
 .have aqb:=u8.le
  have g8:=(u8.old n (by omega)).trans g6;have g9:=(u8.old (n+1) (by omega)).trans g7;obtain⟨m,hm⟩:∃m,s.marks[k]?=some m:=⟨s.marks[k],List.getElem?_eq_some_iff.2 ⟨hk,rfl⟩⟩;obtain⟨c,hc⟩:∃c,C.clauses[k]?=some c:=⟨C.clauses[k],List.getElem?_eq_some_iff.2 ⟨by omega,rfl⟩⟩;have hok:=hO.clause hc;obtain⟨b5,o5,m5,i5,hm5,hb5,sO⟩:=hS.marks.dL (k:=(k:Nat)) (by omega) (by omega) (by omega);rw[show((k:Nat):Int).toNat=k by omega,hm]at hm5;cases hm5;have ua:=(u8.old b5 (by omega)).trans ((u6.old b5 (by omega)).trans ((u4.old b5 (by omega)).trans (u0.old b5 hb5)));repeat' (first|(simp (disch:=omega) only[go_sem,simprocAttr,ub.old,g8,g9,CS.av,TS.av,i5,sO.el,sO.hd,sO.all,ua])|(simp (disch:=omega) only[go_sem,simprocAttr,g8,g9,CS.av,TS.av,i5,sO.el,sO.hd,sO.all,ua])|((first|rw[aR]|rw[bF]);with_reducible refine Tn _ (hC.up aH) hc m λh2 n2 u2=>?_;(first|replace ub:=Up.trans ub (Up.trans aH u2)|have ub:=u2);have hle:=ub.le;clear u2)|((first|rw[aR]|rw[bF]);with_reducible refine Az _ (hC.up aH) (hS.up aH) hc hm (by have:=hok.qH;omega) (λx hx=>by have:=hok.start x hx;omega) λh2 n2 u2=>?_;(first|replace ub:=Up.trans ub (Up.trans aH u2)|have ub:=u2);have hle:=ub.le;clear u2)|(refine aS ?_ ?_<;>(intro hb hd;rw[hb];clear hb))|(with_reducible refine aj ?_))
  all_goals first
   |(
    refine dh hQ ?_ aH;have:um C s=false:=by
     unfold um;rw[List.all_eq_false];exact⟨k,List.mem_range.2 hk,by rw[hm,hc];simp_all⟩
    simp[ay.dB,this])
   |(
    refine iO rfl rfl (λj m' c' hj hm' hc'=>?_) aH (by(repeat' (first|exact aO|refine aM rfl ?_)));by_cases e:j=k
    .subst e;rw[hm]at hm';cases hm';rw[hc]at hc';cases hc';simp_all
    .exact hr8 j m' c' (by omega) hm' hc')
 .repeat' (first|(simp (disch:=omega) only[go_sem,simprocAttr,ub.old])|(simp (disch:=omega) only[go_sem,simprocAttr])|(refine aS ?_ ?_<;>(intro hb hd;rw[hb];clear hb))|(with_reducible refine aj ?_))
  refine dh hQ ?_ aH;have:um C s=true:=by
   unfold um;rw[List.all_eq_true];intro i hi;have hi:=List.mem_range.1 hi;obtain⟨m,hm⟩:∃m,s.marks[i]?=some m:=⟨s.marks[i],List.getElem?_eq_some_iff.2 ⟨hi,rfl⟩⟩;obtain⟨c,hc⟩:∃c,C.clauses[i]?=some c:=⟨C.clauses[i],List.getElem?_eq_some_iff.2 ⟨by omega,rfl⟩⟩;rw[hm,hc];exact hr8 i m c hi hm hc
  simp[ay.dB,hv,hs1,hH,hU,this]
end
end
section
noncomputable section
set_option maxHeartbeats 4000000
variable {h:AH} {n:Nat} {Q:AV->AH->Nat->Prop} {v:CS} {C:ay} {tv:TS} {s:aI}
open Classical in
def FK{α:Type}(a b:α):Bool:=decide (a=b)
theorem yw{α:Type}{a b:α}(e:a=b):FK a b=true:=by simp[FK,e]
theorem vN{α:Type}{a b:α}(e:a≠b):FK a b=false:=by simp[FK,e]
theorem Ci(K:Nat){x y:AV}{a b:List Int}(hx:SL h n 1 x (λx:Int=>[AV.i .i64 x]) a)(hy:SL h n 1 y (λx:Int=>[AV.i .i64 x]) b)(hl:a.length<=1000000)(hQ:∀h' n',Up h n h' n'->Q (.b (FK a b)) h' n'):CW (EF (K+1)) 32 [x,y] h n Q:=by
 refine aC c109 rfl ?_;repeat' (first|(simp (disch:=omega) only[go_sem,simprocAttr,abN,hx.len,hy.len])|(refine aS ?_ ?_<;>(intro hb hd;rw[hb];clear hb))|(with_reducible refine aj ?_))
 .refine dh hQ (vN λe=>?_) aH
  subst e;omega
 have hab:a.length=b.length:=by omega
 refine gP a.length (λk=>∀j,j<k->a[j]?=b[j]?) h n (λk=>[(0,x),(1,y),(4,.b false)]) (by omega) (by omega) (by omega) (by omega) (λ_=>⟨rfl,rfl⟩) rfl rfl (by(repeat' (first|exact aO|refine aM rfl ?_))) aH (by omega) (λk h4 n4 hk hr u4=>?_) (λh4 n4 hr u4=>?_)
 .obtain⟨b1,o1,w1,i1,hw1,hb1,r1⟩:=hx.dL (k:=(k:Nat)) (by omega) (by omega) (by omega)
  obtain⟨b2,o2,w2,i2,hw2,hb2,r2⟩:=hy.dL (k:=(k:Nat)) (by omega) (by omega) (by omega);rw[show((k:Nat):Int).toNat=k by omega]at hw1 hw2;have u1:=u4.old b1 hb1;have u2:=u4.old b2 hb2;repeat' (first|(simp (disch:=omega) only[go_sem,simprocAttr,i1,i2,r1.hd,r2.hd,u1,u2])|(refine aS ?_ ?_<;>(intro hb hd;rw[hb];clear hb))|(with_reducible refine aj ?_))
  .refine dh hQ (vN λe=>?_) aH
   subst e;rw[hw1]at hw2;cases hw2;simp_all
  .refine iO rfl rfl (λj hj=>?_) aH (by(repeat' (first|exact aO|refine aM rfl ?_)))
   by_cases e:j=k
   .subst e;rw[hw1,hw2];simp_all
   .exact hr j (by omega)
 .repeat' (first|(simp (disch:=omega) only[go_sem,simprocAttr])|(refine aS ?_ ?_<;>(intro hb hd;rw[hb];clear hb))|(with_reducible refine aj ?_))
  refine dh hQ (yw (List.ext_getElem? λj=>?_)) aH;by_cases hj:j<a.length
  .exact hr j hj
  .rw[List.getElem?_eq_none (by omega),List.getElem?_eq_none (by omega)]
theorem Tq(a b:Bool):(eB Tryz.prog 4 .neq).run (.b a) (.b b)=bnd (some (bc a b (qY b))) λe=>some (.b (qY e)):=by kernel_rfl
@[go_sem] theorem aio (a b:Bool):(eB Tryz.prog 4 .neq).run (.b a) (.b b)=some (.b (!(a==b))):=by
 rw[Tq];cases a<;>cases b<;>rfl
theorem LW(a b c d:Int)(e:Bool)(a' b' c' d':Int)(e':Bool):(eB Tryz.prog 185 .neq).run (.agg [.i .i64 a,.i .i64 b,.i .i64 c,.i .i64 d,.b e]) (.agg [.i .i64 a',.i .i64 b',.i .i64 c',.i .i64 d',.b e'])=
 bnd (bc (gu a a') (bc (gu b b') (bc (gu c c') (bc (gu d d') (bc (bc e e' (qY e')) (some true) (some false)) (some false)) (some false)) (some false)) (some false)) λe=>some (.b (qY e)):=by kernel_rfl
@[go_sem] theorem abR (m m':aA):(eB Tryz.prog 185 .neq).run (.agg m.av) (.agg m'.av)=some (.b (!FK m m')):=by
 obtain⟨a,b,c,d,e⟩:=m;obtain⟨a',b',c',d',e'⟩:=m';rw[LW,dz,dz,dz,dz];unfold FK;by_cases h1:a=a'<;>by_cases h2:b=b'<;>by_cases h3:c=c'<;>by_cases h4:d=d'<;>cases e<;>cases e'<;>simp[h1,h2,h3,h4,bc,bnd,qY]
theorem Ik(K:Nat){x y:AV}{a b:List Bool}(hx:SL h n 1 x (λx:Bool=>[AV.b x]) a)(hy:SL h n 1 y (λx:Bool=>[AV.b x]) b)(hl:a.length<=1000000)(hQ:∀h' n',Up h n h' n'->Q (.b (FK a b)) h' n'):CW (EF (K+1)) 187 [x,y] h n Q:=by
 refine aC aij rfl ?_;repeat' (first|(simp (disch:=omega) only[go_sem,simprocAttr,abO,hx.len,hy.len])|(refine aS ?_ ?_<;>(intro hb hd;rw[hb];clear hb))|(with_reducible refine aj ?_))
 .refine dh hQ (vN λe=>?_) aH
  subst e;omega
 have hab:a.length=b.length:=by omega
 refine gP a.length (λk=>∀j,j<k->a[j]?=b[j]?) h n (λk=>[(0,x),(1,y),(4,.b false)]) (by omega) (by omega) (by omega) (by omega) (λ_=>⟨rfl,rfl⟩) rfl rfl (by(repeat' (first|exact aO|refine aM rfl ?_))) aH (by omega) (λk h4 n4 hk hr u4=>?_) (λh4 n4 hr u4=>?_)
 .obtain⟨b1,o1,w1,i1,hw1,hb1,r1⟩:=hx.dL (k:=(k:Nat)) (by omega) (by omega) (by omega)
  obtain⟨b2,o2,w2,i2,hw2,hb2,r2⟩:=hy.dL (k:=(k:Nat)) (by omega) (by omega) (by omega);rw[show((k:Nat):Int).toNat=k by omega]at hw1 hw2;have u1:=u4.old b1 hb1;have u2:=u4.old b2 hb2;repeat' (first|(simp (disch:=omega) only[go_sem,simprocAttr,i1,i2,r1.hd,r2.hd,u1,u2])|(refine aS ?_ ?_<;>(intro hb hd;rw[hb];clear hb))|(with_reducible refine aj ?_))
  .refine dh hQ (vN λe=>?_) aH
   subst e;rw[hw1]at hw2;cases hw2;simp_all
  .refine iO rfl rfl (λj hj=>?_) aH (by(repeat' (first|exact aO|refine aM rfl ?_)))
   by_cases e:j=k
   .subst e;rw[hw1,hw2];simp_all
   .exact hr j (by omega)
 .repeat' (first|(simp (disch:=omega) only[go_sem,simprocAttr])|(refine aS ?_ ?_<;>(intro hb hd;rw[hb];clear hb))|(with_reducible refine aj ?_))
  refine dh hQ (yw (List.ext_getElem? λj=>?_)) aH;by_cases hj:j<a.length
  .exact hr j hj
  .rw[List.getElem?_eq_none (by omega),List.getElem?_eq_none (by omega)]
theorem Il(K:Nat){x y:AV}{a b:List aA}(hx:SL h n 5 x aA.av a)(hy:SL h n 5 y aA.av b)(hl:a.length<=1000000)(hQ:∀h' n',Up h n h' n'->Q (.b (FK a b)) h' n'):CW (EF (K+1)) 188 [x,y] h n Q:=by
 refine aC aik rfl ?_;repeat' (first|(simp (disch:=omega) only[go_sem,simprocAttr,abP,hx.len,hy.len])|(refine aS ?_ ?_<;>(intro hb hd;rw[hb];clear hb))|(with_reducible refine aj ?_))
 .refine dh hQ (vN λe=>?_) aH
  subst e;omega
 have hab:a.length=b.length:=by omega
 refine gP a.length (λk=>∀j,j<k->a[j]?=b[j]?) h n (λk=>[(0,x),(1,y),(4,.b false)]) (by omega) (by omega) (by omega) (by omega) (λ_=>⟨rfl,rfl⟩) rfl rfl (by(repeat' (first|exact aO|refine aM rfl ?_))) aH (by omega) (λk h4 n4 hk hr u4=>?_) (λh4 n4 hr u4=>?_)
 .obtain⟨b1,o1,w1,i1,hw1,hb1,r1⟩:=hx.dL (k:=(k:Nat)) (by omega) (by omega) (by omega)
  obtain⟨b2,o2,w2,i2,hw2,hb2,r2⟩:=hy.dL (k:=(k:Nat)) (by omega) (by omega) (by omega);rw[show((k:Nat):Int).toNat=k by omega]at hw1 hw2;have u1:=u4.old b1 hb1;have u2:=u4.old b2 hb2;repeat' (first|(simp (disch:=omega) only[go_sem,simprocAttr,i1,i2,r1.all,r2.all,u1,u2])|(refine aS ?_ ?_<;>(intro hb hd;rw[hb];clear hb))|(with_reducible refine aj ?_))
  .refine dh hQ (vN λe=>?_) aH
   subst e;rw[hw1]at hw2;cases hw2;simp_all [FK]
  .refine iO rfl rfl (λj hj=>?_) aH (by(repeat' (first|exact aO|refine aM rfl ?_)))
   by_cases e:j=k
   .subst e;rw[hw1,hw2];simp_all [FK]
   .exact hr j (by omega)
 .repeat' (first|(simp (disch:=omega) only[go_sem,simprocAttr])|(refine aS ?_ ?_<;>(intro hb hd;rw[hb];clear hb))|(with_reducible refine aj ?_))
  refine dh hQ (yw (List.ext_getElem? λj=>?_)) aH;by_cases hj:j<a.length
  .exact hr j hj
  .rw[List.getElem?_eq_none (by omega),List.getElem?_eq_none (by omega)]
theorem zi(K:Nat){tv':TS}{s':aI}(hS:bI h n tv s)(hS':bI h n tv' s')(l1:s.ah.length<=1000000)(l2:s.used.length<=1000000)(l3:s.marks.length<=1000000)(hQ:∀h' n',Up h n h' n'->Q (.b (FK s s')) h' n'):CW (EF (K+2)) 123 [.agg (tv.av s),.agg (tv'.av s')] h n Q:=by
 refine aC c234 rfl ?_;have key:FK s s'=(decide (s.day=s'.day)&&(FK s.ah s'.ah&&(FK s.used s'.used&&FK s.marks s'.marks))):=by
  unfold FK;obtain⟨a,b,c,d⟩:=s;obtain⟨a',b',c',d'⟩:=s';by_cases h1:a=a'<;>by_cases h2:b=b'<;>by_cases h3:c=c'<;>by_cases h4:d=d'<;>simp[h1,h2,h3,h4]
 repeat' (first|(simp (disch:=omega) only[go_sem,simprocAttr,ub.old,X8,TS.av])|(simp (disch:=omega) only[go_sem,simprocAttr,X8,TS.av])|((first|rw[aR]|rw[bF]);with_reducible refine Ci _ (hS.ah.up aH) (hS'.ah.up aH) l1 λh2 n2 u2=>?_;(first|replace ub:=Up.trans ub (Up.trans aH u2)|have ub:=u2);have hle:=ub.le;clear u2)|((first|rw[aR]|rw[bF]);with_reducible refine Ik _ (hS.used.up aH) (hS'.used.up aH) l2 λh2 n2 u2=>?_;(first|replace ub:=Up.trans ub (Up.trans aH u2)|have ub:=u2);have hle:=ub.le;clear u2)|((first|rw[aR]|rw[bF]);with_reducible refine Il _ (hS.marks.up aH) (hS'.marks.up aH) l3 λh2 n2 u2=>?_;(first|replace ub:=Up.trans ub (Up.trans aH u2)|have ub:=u2);have hle:=ub.le;clear u2)|(refine aS ?_ ?_<;>(intro hb hd;rw[hb];clear hb))|(with_reducible refine aj ?_))
 all_goals(first|(with_reducible refine dh hQ ?_ aH;first|(simp[key,ieq];done)|(simp[key,ieq];omega)|(simp_all [key,ieq];done)|(simp_all [key,ieq];omega))|((with_reducible refine gI hQ aH (λhz=>?_) (λhz=>?_))<;>first|(simp_all [key,ieq];done)|(simp_all [key,ieq];omega)))
theorem Kw(K:Nat)(hC:aY h n v C)(hS:bI h n tv s){i:Int}{a:dM}(h0:0<=i)(ha:C.acts[i.toNat]?=some a)(hr:a.role≠ -1->0<=a.role/\a.role<s.ah.length)(hQ:∀h' n',Up h n h' n'->Q (.i .i64 (bC s.ah a)) h' n'):CW (EF (K+1)) 211 [.agg (v.av C),.agg (tv.av s),.i .i64 i] h n Q:=by
 have hil:=(List.getElem?_eq_some_iff.1 ha).1;refine aC aic rfl ?_;repeat' (first|(simp (disch:=omega) only[go_sem,simprocAttr,abK,CS.av,TS.av])|(refine aS ?_ ?_<;>(intro hb hd;rw[hb];clear hb))|(with_reducible refine aj ?_))
 refine iD hC.acts (by omega) (by omega) (by omega) λb o a' ha' hb rd=>?_;rw[ha]at ha';cases ha';repeat' (first|(simp (disch:=omega) only[go_sem,simprocAttr,rd.el,rd.hd,dM.av])|(refine aS ?_ ?_<;>(intro hb hd;rw[hb];clear hb))|(with_reducible refine aj ?_))
 .have:bC s.ah a= -1:=by simp_all [bC]
  rw[this]at hQ;exact hQ _ _ aH
 obtain⟨b2,o2,a2,i2,ha2,hb2,eP⟩:=hC.acts.dL (k:=i) (by omega) (by omega) (by omega);rw[ha]at ha2;cases ha2;have hr':=hr (by assumption);obtain⟨b3,o3,p,i3,hp,hb3,nA⟩:=hS.ah.dL (k:=a.role) (by omega) (by omega) (by omega);repeat' (first|(simp (disch:=omega) only[go_sem,simprocAttr,i2,eP.el,eP.hd,i3,nA.el,nA.hd])|(refine aS ?_ ?_<;>(intro hb hd;rw[hb];clear hb))|(with_reducible refine aj ?_))
 have:bC s.ah a=p:=by
  have e:(a.role== -1)=false:=by simp;assumption
  unfold bC gY;rw[e,hp];rfl
 rw[this]at hQ;exact hQ _ _ aH
theorem Ky(K:Nat)(hC:aY h n v C)(ho:C.off.length<=1000000)(hS:bI h n tv s)(hs:C.dB s=true){i:Int}{a:dM}(h0:0<=i)(ha:C.acts[i.toNat]?=some a)(hQ:∀h' n',Up h n h' n'->Q (.i .i64 (bC s.ah a)) h' n'):CW (EF (K+8)) 146 [.agg (v.av C),.agg (tv.av s),.i .i64 i] h n Q:=by
 have hil:=(List.getElem?_eq_some_iff.1 ha).1;have hst:=(bR C s).1 hs;have hr:a.role≠ -1->0<=a.role/\a.role<s.ah.length:=by
  have:=((ay.ok hst.con).act (List.mem_of_getElem? ha)).role;rw[hst.lh];exact this
 refine aC aii rfl ?_;repeat' (first|(simp (disch:=omega) only[go_sem,simprocAttr,ub.old,X6,CS.av,TS.av,hC.acts.len,hs])|(simp (disch:=omega) only[go_sem,simprocAttr,X6,CS.av,TS.av,hC.acts.len,hs])|((first|rw[aR]|rw[bF]);with_reducible refine gJ _ (hC.up aH) ho (hS.up aH) λh2 n2 u2=>?_;(first|replace ub:=Up.trans ub (Up.trans aH u2)|have ub:=u2);have hle:=ub.le;clear u2)|((first|rw[aR]|rw[bF]);with_reducible refine Kw _ (hC.up aH) (hS.up aH) h0 ha hr λh2 n2 u2=>?_;(first|replace ub:=Up.trans ub (Up.trans aH u2)|have ub:=u2);have hle:=ub.le;clear u2)|(refine aS ?_ ?_<;>(intro hb hd;rw[hb];clear hb))|(with_reducible refine aj ?_))
 .exfalso;omega
 .exfalso;omega
 .exact hQ _ _ aH
end
end
section
noncomputable section
set_option maxRecDepth 1000000
set_option maxHeartbeats 4000000
def m45:MC:=vF 62
def c45:=vT 62 m45
def abS:MC:=vF 254
def aip:=vT 254 abS
def m97:MC:=vF 205
def c97:=vT 205 m97
def m98:MC:=vF 206
def c98:=vT 206 m98
def m96:MC:=vF 204
def c96:=vT 204 m96
def abT:MC:=vF 209
def aiq:=vT 209 abT
def abU:MC:=vF 210
def air:=vT 210 abU
def abW:MC:=vF 208
def ais:=vT 208 abW
def Ya:MC:=vF 256
def ait:=vT 256 Ya
def m46:MC:=vF 72
def c46:=vT 72 m46
def m17:MC:=vF 36
def c17:=vT 36 m17
def m18:MC:=vF 77
def c18:=vT 77 m18
def m48:MC:=vF 133
def c48:=vT 133 m48
def Yb:MC:=vB 133 (gW 133 0)
def Yc:=vU 133 (gW 133 0) Yb
def Io:MC:=vB 133 (gX 133 0)
def Yd:=vU 133 (gX 133 0) Io
def m49:MC:=vF 134
def c49:=vT 134 m49
def Ye:MC:=vB 134 (gW 134 0)
def Yf:=vU 134 (gW 134 0) Ye
def Ip:MC:=vB 134 (gX 134 0)
def Yg:=vU 134 (gX 134 0) Ip
def Yh:MC:=vB 134 (gW 134 1)
def Yi:=vU 134 (gW 134 1) Yh
def Iq:MC:=vB 134 (gX 134 1)
def Yj:=vU 134 (gX 134 1) Iq
def abX:MC:=vF 212
def aix:=vT 212 abX
def Tt:MC:=vB 212 (gW 212 0)
def Tv:=vU 212 (gW 212 0) Tt
def Kz:MC:=vB 212 (gX 212 0)
def Tw:=vU 212 (gX 212 0) Kz
def m99:MC:=vF 207
def c99:=vT 207 m99
def abY:MC:=vF 255
def aiz:=vT 255 abY
end
end
section
noncomputable section
def mK(st e w:Nat):MC:=(.seq (.reg [⟨none,(.mv (.c (.k 1))),(.k 2)⟩]) (.seq (.seq (.reg [⟨none,(.mv (.s 0)),.l⟩,⟨none,(.bin .eql st (.v 0) (.c (.k 1))),(.k 4)⟩]) (.cond (.s 4) (.seq (.reg [⟨none,(.mv (.c (.k 1))),(.k 2)⟩]) .ret) .skip)) (.seq (.reg [⟨none,(.Nn e 0 [] []),.l⟩,⟨none,(.mv (.s 0)),.l⟩,⟨none,(.app e w (.v 1) (.v 0)),.l⟩,⟨none,(.mv (.v 0)),(.k 2)⟩]) .ret)))
structure FM(st:Nat):Prop where
 sl:∀b l o k c,(eB Tryz.prog st .eql).run (.sl b l o k c) (.k 1)=some (.b false)
 es:∀a c,(eB Tryz.prog st .eql).run (.es a c) (.k 1)=some (.b false)
 nl:(eB Tryz.prog st .eql).run (.k 1) (.k 1)=some (.b true)
theorem Tz{h:AH}{n e w b t:Nat}{y:AV}{α:Type}{c:α->List AV}{l:List α}(hb:h.get b=some (.row t []))(hy:SL h n w y c l)(hl:l.length<=1048576)(h0:l≠[]):(jS e w).run h n (.sl b 0 0 0 (some 0)) y= .ok (.sl n 0 0 l.length none) (h.set n (.row e (l.flatMap c))) (n+1):=by
 have hsrc:jG h w 0 (.sl b 0 0 0 (some 0))=some []:=by
  show bnd (iI (h.get b) 0 _) (λr=>mP (Nat.mul 0 w) r)=_;rw[hb];show mP (0*w) (r_ 0 [])=_;rw[rG,if_pos (by omega)];simp
 have hpos:0<l.length:=List.length_pos_iff.2 h0;rw[Ku,hy.ap.1];show aP (jG h w 0 (.sl b 0 0 0 (some 0))) _=_;rw[hsrc];show aP (jG h w l.length y) _=_;rw[hy.ap.2];show bc (Nat.ble (Nat.add 0 l.length) 1048576) (bc (Nat.ble (Nat.add 0 l.length) 0) _ (mk h n (.sl n 0 0 (Nat.add 0 l.length) none) (.row e (CP [] (l.flatMap c))))) .bad=_;have hf:Nat.ble l.length 0=false:=by
  cases hq:Nat.ble l.length 0 with
  |false=>rfl
  |true=>have:=Nat.le_of_ble_eq_true hq;omega
 rw[show Nat.add 0 l.length=l.length from Nat.zero_add _,Nat.ble_eq_true_of_le hl,bD,hf,gH];rfl
theorem eU{g st e w:Nat}(hc:yc Tryz.prog sl0 g=some ([true],mK st e w,[(.t 2)]))(hn:FM st)(K:Nat){h:AH}{n:Nat}{Q:AV->AH->Nat->Prop}{x:AV}{α:Type}{c:α->List AV}{a:List α}(hx:SL h n w x c a)(hl:a.length<=1000000)
 (hQ:∀v' h' n',Up h n h' n'->Gr h' n' e w v' c a->(∀x,blk v' x->n<=x)->(a≠[]->∃b,v'= .sl b 0 0 a.length none/\h'.get b=some (.row e (a.flatMap c))/\n<=b/\b<n')->Q v' h' n')(hg:Nat.beq g Nr=false:=by rfl)(hg':Nat.beq g RJ=false:=by rfl):CW (EF (K+1)) g [x] h n Q:=by
 obtain⟨hw,hs⟩:=hx;have hx:SL h n w x c a:=⟨hw,hs⟩;have hcase:(x= .k 1/\a=[])\/(eB Tryz.prog st .eql).run x (.k 1)=some (.b false):=by
  rcases hs with⟨rfl,e2,e3⟩|⟨b,lo,o,cp,rfl,_⟩|⟨a0,c0,rfl,_⟩
  .exact .inl ⟨rfl,List.length_eq_zero_iff.1 e2⟩
  .exact .inr (hn.sl _ _ _ _ _)
  .exact .inr (hn.es _ _)
 rcases hcase with⟨rfl,rfl⟩|hv
 .refine aC hc rfl ?_ hg hg'
  repeat' (first|(simp (disch:=omega) only[go_sem,simprocAttr,mK,hn.nl])|(refine aS ?_ ?_<;>(intro hb hd;rw[hb];clear hb))|(with_reducible refine aj ?_))
  exact hQ _ _ _ aH (Gr.nil hw) (λx hx=>absurd hx fA) λh=>absurd rfl h
 .refine aC hc rfl ?_ hg hg'
  simp (disch:=omega) only[go_sem,simprocAttr,mK,hv];have u1:Up h n (Tr.set h n (.row e [])) (n+1):=by exact aH
  by_cases h0:a=[]
  .subst h0
   have g0:Gr (Tr.set h n (.row e [])) (n+1) e w (.sl n 0 0 0 (some 0)) c []:=Gr.of (l:=[]) hw (Nat.lt_succ_self n) aF (by simp) (Nat.le_refl _) (by simp);obtain⟨v',h',n',r1,r2,r3,r4,r5⟩:=g0.app (hx.up u1).ap.1 (hx.up u1).ap.2 (by simp);rw[List.nil_append]at r2;try simp only[List.length_nil]at r1
   simp (disch:=omega) only[go_sem,simprocAttr,r1];refine hQ _ _ _ ⟨by omega,λy hy=>by rw[r4 y (by omega) (λhb=>by rw[eu]at hb;omega),au (by omega)]⟩ r2 (λy hy=>?_) λh=>absurd rfl h;rcases r5 y hy with hb|hb
   .rw[eu]at hb;omega
   .omega
  .simp (disch:=omega) only[go_sem,simprocAttr,Tz (e:=e) (aF (t:=h) (n:=n) (v:=AO.row e [])) (hx.up u1) (by omega) h0]
   refine hQ _ _ _ aH ⟨hw,.inr ⟨_,none,_,rfl,Nat.lt_succ_self _,aF,by rw[<-bN hw,List.take_length],by rw[bN hw];exact Nat.le_refl _,λ_=>bN hw _,λk hk=>by cases hk⟩⟩ (λy hy=>?_) λ_=>⟨_,rfl,aF,by omega,by omega⟩;rw[eu]at hy;omega
theorem AA:FM 22:=⟨λ_ _ _ _ _=>by kernel_rfl,λ_ _=>by kernel_rfl,by kernel_rfl⟩
theorem VA:FM 74:=⟨λ_ _ _ _ _=>by kernel_rfl,λ_ _=>by kernel_rfl,by kernel_rfl⟩
theorem abZ:FM 75:=⟨λ_ _ _ _ _=>by kernel_rfl,λ_ _=>by kernel_rfl,by kernel_rfl⟩
theorem Yk:yc Tryz.prog sl0 62=some ([true],mK 22 3 1,[(.t 2)]):=by kernel_rfl
theorem ab0:yc Tryz.prog sl0 150=some ([true],mK 74 4 1,[(.t 2)]):=by kernel_rfl
theorem aiA:yc Tryz.prog sl0 151=some ([true],mK 75 185 5,[(.t 2)]):=by kernel_rfl
end
end
section
noncomputable section
def bO(l:List aA)(i:Nat):aA:=l.getD i ⟨0,0,0,0,false⟩
theorem gL{l:List aA}{i:Nat}(h:i<l.length):l[i]?=some (bO l i):=by
 unfold bO;rw[List.getD_eq_getElem?_getD,List.getElem?_eq_getElem h];rfl
abbrev ci(x:Int):List AV:=[.i .i64 x]
abbrev cb(x:Bool):List AV:=[.b x]
section
variable {P:Program} {S:SK} {d:MD} {r:List MR} {l':List AV} {s:List It} {f:FT} {h:AH} {n:Nat} {F:Fm} {Q:PQ}
theorem b_{w b len i:Nat}{c:Option Nat}(hi:i<len):Vq S w (some (.sl b 0 0 len c)) (some (.i .i64 (i:Nat))) d r l' s f h n F Q=mG S d (.p b (i*w)) r l' s f h n F Q:=by
 show IA w (.sl b 0 0 len c) i (λp=>mG S d p r l' s f h n F Q)=_;apply propext;constructor
 .rintro⟨b',lo,o,m,c',e,h1,h2,q⟩
  cases e
  simpa using q
 .intro q
  exact⟨b,0,0,len,c,rfl,by omega,by omega,by simpa using q⟩
theorem cK{w b len i:Nat}{c:Option Nat}(hi:i<len):dL w (some (.sl b 0 0 len c)) (some (.i .i64 (i:Nat)))=some (.p b (i*w)):=by
 show(if 0<=(i:Int)/\(i:Int)<(len:Nat)then some (AV.p b (0+(i:Int).toNat*w))else none)=_;rw[if_pos ⟨by omega,by omega⟩];simp
theorem vO{α:Type}{c:α->List AV}{w e:Nat}(hw:∀a,(c a).length=w){l:List α}{i:Nat}{a:α}(hi:l[i]?=some a){j:Nat}(hj:j<w):pG (some (.row e (l.flatMap c))) (i*w+j) none=(c a)[j]?:=w9 hw hi hj
theorem Pv{α:Type}{c:α->List AV}{w e:Nat}(hw:∀a,(c a).length=w){l:List α}{i:Nat}{a:α}(hi:l[i]?=some a):pG (some (.row e (l.flatMap c))) (i*w) (some w)=some (.agg (c a)):=by
 have hlt:=(List.getElem?_eq_some_iff.1 hi).1;have hm:(i+1)*w<=l.length*w:=Nat.mul_le_mul_right w hlt;rw[Nat.succ_mul]at hm;show(if i*w+w<=(l.flatMap c).length then some (AV.agg (((l.flatMap c).drop (i*w)).take w))else none)=_;rw[if_pos (by rw[bN hw];omega),ou hw hi]
section
variable {e i:Nat} {l:List aA} {x:Int} {b:Bool}
theorem aiB(h:i<l.length):pG (some (.row e (l.flatMap aA.av))) (i*5) none=some (.i .i64 (bO l i).status):=vO (c:=aA.av) (w:=5) (λ_=>rfl) (gL h) (j:=0) (by omega)
theorem ab1(h:i<l.length):pG (some (.row e (l.flatMap aA.av))) (i*5+1) none=some (.i .i64 (bO l i).left):=vO (c:=aA.av) (w:=5) (λ_=>rfl) (gL h) (by omega)
theorem aiC(h:i<l.length):pG (some (.row e (l.flatMap aA.av))) (i*5+2) none=some (.i .i64 (bO l i).got):=vO (c:=aA.av) (w:=5) (λ_=>rfl) (gL h) (by omega)
theorem ab2(h:i<l.length):pG (some (.row e (l.flatMap aA.av))) (i*5+3) none=some (.i .i64 (bO l i).aT):=vO (c:=aA.av) (w:=5) (λ_=>rfl) (gL h) (by omega)
theorem Yl(h:i<l.length):pG (some (.row e (l.flatMap aA.av))) (i*5+4) none=some (.b (bO l i).paused):=vO (c:=aA.av) (w:=5) (λ_=>rfl) (gL h) (by omega)
theorem rdm(h:i<l.length):pG (some (.row e (l.flatMap aA.av))) (i*5) (some 5)=some (.agg (bO l i).av):=Pv (c:=aA.av) (w:=5) (λ_=>rfl) (gL h)
theorem nC{l:List aA}{m:aA}{i j:Nat}{v:AV}(h:i<l.length)(hm:m.av=(bO l i).av.set j v)(hj:j<5):fQ (some (.row e (l.flatMap aA.av))) (i*5+j) (some [v])=some (.row e ((l.set i m).flatMap aA.av)):=by
 have h1:=rP (e:=e) (c:=aA.av) (w:=5) (λ_=>rfl) (l:=l) (i:=i) (a:=m) h;unfold fQ at h1⊢;dsimp only at h1⊢;have hm5:(i+1)*5<=l.length*5:=Nat.mul_le_mul_right 5 h;have hfl:(l.flatMap aA.av).length=l.length*5:=bN (c:=aA.av) (w:=5) (λ_=>rfl) l;have hat:((l.flatMap aA.av).drop (i*5)).take 5=(bO l i).av:=ou (c:=aA.av) (w:=5) (λ_=>rfl) (gL h);have key:pI [v] (i*5+j) (l.flatMap aA.av)=pI m.av (i*5) (l.flatMap aA.av):=by
  unfold pI;rw[if_pos (by rw[hfl];simp;omega),if_pos (by rw[hfl];show i*5+5<=_;omega)];congr 1;rw[hm];generalize hL:l.flatMap aA.av=L at*;have FN:(bO l i).av.length=5:=rfl;have hsplit:L=L.take (i*5)++((bO l i).av++L.drop (i*5+5)):=by
   rw[<-hat,<-List.drop_drop,List.take_append_drop,List.take_append_drop]
  rw[List.length_set,FN];show L.take (i*5+j)++v::L.drop (i*5+j+1)=L.take (i*5)++((bO l i).av.set j v++L.drop (i*5+5));have e1:L.set (i*5+j) v=L.take (i*5+j)++v::L.drop (i*5+j+1):=by rw[List.set_eq_take_append_cons_drop,if_pos (by omega)]
  rw[<-e1];have e2:(L.take (i*5)++((bO l i).av++L.drop (i*5+5))).set (i*5+j) v=L.take (i*5)++((bO l i).av.set j v++L.drop (i*5+5)):=by
   rw[List.set_append,List.length_take,Nat.min_eq_left (by omega),if_neg (by omega),List.set_append,show i*5+j - i*5=j by omega,if_pos (by rw[FN];omega)]
  rw[<-e2,<-hsplit]
 rw[key];exact h1
theorem ab3(h:i<l.length):fQ (some (.row e (l.flatMap aA.av))) (i*5) (some [.i .i64 x])=some (.row e ((l.set i ⟨x,(bO l i).left,(bO l i).got,(bO l i).aT,(bO l i).paused⟩).flatMap aA.av)):=nC (j:=0) h rfl (by omega)
theorem ab4(h:i<l.length):fQ (some (.row e (l.flatMap aA.av))) (i*5+1) (some [.i .i64 x])=some (.row e ((l.set i ⟨(bO l i).status,x,(bO l i).got,(bO l i).aT,(bO l i).paused⟩).flatMap aA.av)):=nC h rfl (by omega)
theorem aiD(h:i<l.length):fQ (some (.row e (l.flatMap aA.av))) (i*5+2) (some [.i .i64 x])=some (.row e ((l.set i ⟨(bO l i).status,(bO l i).left,x,(bO l i).aT,(bO l i).paused⟩).flatMap aA.av)):=nC h rfl (by omega)
theorem aiE(h:i<l.length):fQ (some (.row e (l.flatMap aA.av))) (i*5+3) (some [.i .i64 x])=some (.row e ((l.set i ⟨(bO l i).status,(bO l i).left,(bO l i).got,x,(bO l i).paused⟩).flatMap aA.av)):=nC h rfl (by omega)
theorem ab5(h:i<l.length):fQ (some (.row e (l.flatMap aA.av))) (i*5+4) (some [.b b])=some (.row e ((l.set i ⟨(bO l i).status,(bO l i).left,(bO l i).got,(bO l i).aT,b⟩).flatMap aA.av)):=nC h rfl (by omega)
theorem stm(h:i<l.length)(m:aA):fQ (some (.row e (l.flatMap aA.av))) (i*5) (some m.av)=some (.row e ((l.set i m).flatMap aA.av)):=rP (c:=aA.av) (w:=5) (λ_=>rfl) h
theorem VB(h:i<l.length){m:aA}:pG (some (.row e ((l.set i m).flatMap aA.av))) (i*5+1) none=some (.i .i64 m.left):=vO (c:=aA.av) (w:=5) (λ_=>rfl) (List.getElem?_set_self h) (by omega)
theorem ab6(h:i<l.length){m:aA}:pG (some (.row e ((l.set i m).flatMap aA.av))) (i*5+2) none=some (.i .i64 m.got):=vO (c:=aA.av) (w:=5) (λ_=>rfl) (List.getElem?_set_self h) (by omega)
theorem xI{m m':aA}{j:Nat}{v:AV}(h:i<l.length)(hm:m'.av=m.av.set j v)(hj:j<5):fQ (some (.row e ((l.set i m).flatMap aA.av))) (i*5+j) (some [v])=some (.row e ((l.set i m').flatMap aA.av)):=by
 have hs:bO (l.set i m) i=m:=by unfold bO;rw[List.getD_eq_getElem?_getD,List.getElem?_set_self h];rfl
 have:=nC (e:=e) (l:=l.set i m) (m:=m') (i:=i) (j:=j) (v:=v) (by rw[List.length_set];exact h) (by rw[hs];exact hm) hj;rw[this,show(l.set i m).set i m'=l.set i m' by simp]
theorem VD(h:i<l.length){m:aA}:fQ (some (.row e ((l.set i m).flatMap aA.av))) (i*5) (some [.i .i64 x])=some (.row e ((l.set i ⟨x,m.left,m.got,m.aT,m.paused⟩).flatMap aA.av)):=xI (j:=0) h rfl (by omega)
theorem VE(h:i<l.length){m:aA}:fQ (some (.row e ((l.set i m).flatMap aA.av))) (i*5+1) (some [.i .i64 x])=some (.row e ((l.set i ⟨m.status,x,m.got,m.aT,m.paused⟩).flatMap aA.av)):=xI h rfl (by omega)
theorem ab7(h:i<l.length){m:aA}:fQ (some (.row e ((l.set i m).flatMap aA.av))) (i*5+4) (some [.b b])=some (.row e ((l.set i ⟨m.status,m.left,m.got,m.aT,b⟩).flatMap aA.av)):=xI h rfl (by omega)
theorem vP(h:i<l.length)(m:aA):bO (l.set i m) i=m:=by unfold bO;rw[List.getD_eq_getElem?_getD,List.getElem?_set_self h];rfl
end
end
structure UX(X:Nat->Prop)(h:AH)(n:Nat)(h':AH)(n':Nat):Prop where
 le:n<=n'
 old:∀x,x<n->¬X x->h'.get x=h.get x
section
variable {X:Nat->Prop} {h h1 h2:AH} {n n1 n2:Nat}
theorem UX.refl:UX X h n h n:=⟨Nat.le_refl _,λ_ _ _=>rfl⟩
theorem UX.trans(a:UX X h n h1 n1)(b:UX X h1 n1 h2 n2):UX X h n h2 n2:=⟨Nat.le_trans a.le b.le,λx hx hX=>(b.old x (Nat.lt_of_lt_of_le hx a.le) hX).trans (a.old x hx hX)⟩
theorem UX.up(u:Up h n h1 n1):UX X h n h1 n1:=⟨u.le,λx hx _=>u.old x hx⟩
theorem UX.set{b m:Nat}{o:AO}(a:UX X h n h1 n1)(hb:X b\/n<=b)(hm:n1<=m):UX X h n (h1.set b o) m:=⟨Nat.le_trans a.le hm,λx hx hX=>by rw[au (by rintro rfl;rcases hb with e|e;exact hX e;omega)];exact a.old x hx hX⟩
theorem UX.Ym(a:UX X h n h1 n1)(hX:∀x,X x->n<=x):Up h n h1 n1:=⟨a.le,λx hx=>a.old x hx λe=>by have:=hX x e;omega⟩
end
structure WB where
 B:Nat
 g:Nat
 bh:Nat
 bu:Nat
 bm:Nat
 ch:Option Nat
 cu:Option Nat
 cm:Option Nat
def WB.X(b:WB)(x:Nat):Prop:=x=b.g\/x=b.bh\/x=b.bu\/x=b.bm
@[reducible] def WB.tv (b:WB) (s:aI):TS:=⟨.sl b.bh 0 0 s.ah.length b.ch,.sl b.bu 0 0 s.used.length b.cu,.sl b.bm 0 0 s.marks.length b.cm⟩
@[reducible] def WB.cells (b:WB) (v:CS) (C:ay) (s:aI):List AV:=[.i .i64 C.aD,v.h,v.u,v.a,v.k,.i .i64 C.days,v.o,.i .i64 s.day,.sl b.bh 0 0 s.ah.length b.ch,.sl b.bu 0 0 s.used.length b.cu,.sl b.bm 0 0 s.marks.length b.cm]
structure Wk(h:AH)(n:Nat)(b:WB)(v:CS)(C:ay)(s:aI):Prop where
 row:h.get b.g=some (.row 199 (b.cells v C s))
 hs:h.get b.bh=some (.row 3 (s.ah.flatMap ci))
 us:h.get b.bu=some (.row 4 (s.used.flatMap cb))
 ms:h.get b.bm=some (.row 185 (s.marks.flatMap aA.av))
 lg:b.g<n
 lh:b.bh<n
 lu:b.bu<n
 lm:b.bm<n
 kh:∀k,b.ch=some k->s.ah.length<=k
 ku:∀k,b.cu=some k->s.used.length<=k
 km:∀k,b.cm=some k->s.marks.length<=k
 ge:b.B<=b.g/\b.B<=b.bh/\b.B<=b.bu/\b.B<=b.bm
 con:Kp (λx=>b.B<=x) h n λh n=>aY h n v C
section
variable {h h':AH} {n n':Nat} {b:WB} {v:CS} {C:ay} {s:aI} {Q:AV->AH->Nat->Prop}
theorem Wk.ne(w:Wk h n b v C s):b.g≠b.bh/\b.g≠b.bu/\b.g≠b.bm/\b.bh≠b.bu/\b.bh≠b.bm/\b.bu≠b.bm:=by
 refine⟨λe=>?_,λe=>?_,λe=>?_,λe=>?_,λe=>?_,λe=>?_⟩
 .have:=w.row;rw[e,w.hs]at this;cases this
 .have:=w.row;rw[e,w.us]at this;cases this
 .have:=w.row;rw[e,w.ms]at this;cases this
 .have:=w.hs;rw[e,w.us]at this;cases this
 .have:=w.hs;rw[e,w.ms]at this;cases this
 .have:=w.us;rw[e,w.ms]at this;cases this
theorem Wk.jQ(w:Wk h n b v C s):aY h n v C:=w.con.use
theorem Wk.st(w:Wk h n b v C s):bI h n (b.tv s) s:=
 ⟨SL.of (λ_=>rfl) w.lh w.hs rfl rfl w.kh,SL.of (λ_=>rfl) w.lu w.us rfl rfl w.ku,SL.of (λ_=>rfl) w.lm w.ms rfl rfl w.km⟩
theorem Wk.on(w:Wk h n b v C s)(hn:n<=n')(e:∀x,x<n->h'.get x=h.get x):Wk h' n' b v C s where
 row:=(e _ w.lg).trans w.row
 hs:=(e _ w.lh).trans w.hs
 us:=(e _ w.lu).trans w.us
 ms:=(e _ w.lm).trans w.ms
 lg:=Nat.lt_of_lt_of_le w.lg hn
 lh:=Nat.lt_of_lt_of_le w.lh hn
 lu:=Nat.lt_of_lt_of_le w.lu hn
 lm:=Nat.lt_of_lt_of_le w.lm hn
 kh:=w.kh
 ku:=w.ku
 km:=w.km
 ge:=w.ge
 con:=w.con.on hn λx hx _=>e x hx
theorem Wk.up(w:Wk h n b v C s)(u:Up h n h' n'):Wk h' n' b v C s:=w.on u.le u.old
theorem Wk.Ir(w:Wk h n b v C s){x:Nat}{o:AO}(hx:¬b.X x)(hB:b.B<=x):Wk (h.set x o) n b v C s where
 row:=(au λe=>hx (.inl e.symm)).trans w.row
 hs:=(au λe=>hx (.inr (.inl e.symm))).trans w.hs
 us:=(au λe=>hx (.inr (.inr (.inl e.symm)))).trans w.us
 ms:=(au λe=>hx (.inr (.inr (.inr e.symm)))).trans w.ms
 lg:=w.lg
 lh:=w.lh
 lu:=w.lu
 lm:=w.lm
 kh:=w.kh
 ku:=w.ku
 km:=w.km
 ge:=w.ge
 con:=w.con.set (.inl hB) (Nat.le_refl _)
theorem Wk.lt(w:Wk h n b v C s){x:Nat}(hx:b.X x):x<n:=by
 rcases hx with rfl|rfl|rfl|rfl
 .exact w.lg
 .exact w.lh
 .exact w.lu
 .exact w.lm
theorem Wk.sP(w:Wk h n b v C s){ms:List aA}(hl:ms.length=s.marks.length):Wk (h.set b.bm (.row 185 (ms.flatMap aA.av))) n b v C ⟨s.day,s.ah,s.used,ms⟩:=by
 obtain⟨n1,n2,n3,n4,n5,n6⟩:=w.ne;have hr:=w.row;refine⟨?_,(au n5).trans w.hs,(au n6).trans w.us,aF,w.lg,w.lh,w.lu,w.lm,w.kh,w.ku,λk hk=>by rw[hl];exact w.km k hk,w.ge,w.con.set (.inl w.ge.2.2.2) (Nat.le_refl _)⟩;rw[au n3,hr];simp only[WB.cells,hl]
theorem Wk.setH(w:Wk h n b v C s){hs:List Int}(hl:hs.length=s.ah.length):Wk (h.set b.bh (.row 3 (hs.flatMap ci))) n b v C ⟨s.day,hs,s.used,s.marks⟩:=by
 obtain⟨n1,n2,n3,n4,n5,n6⟩:=w.ne;have hr:=w.row;refine⟨?_,aF,(au n4.symm).trans w.us,(au n5.symm).trans w.ms,w.lg,w.lh,w.lu,w.lm,λk hk=>by rw[hl];exact w.kh k hk,w.ku,w.km,w.ge,w.con.set (.inl w.ge.2.1) (Nat.le_refl _)⟩;rw[au n1,hr];simp only[WB.cells,hl]
theorem Wk.ab8(w:Wk h n b v C s){us:List Bool}(hl:us.length=s.used.length):Wk (h.set b.bu (.row 4 (us.flatMap cb))) n b v C ⟨s.day,s.ah,us,s.marks⟩:=by
 obtain⟨n1,n2,n3,n4,n5,n6⟩:=w.ne;have hr:=w.row;refine⟨?_,(au n4).trans w.hs,aF,(au n6.symm).trans w.ms,w.lg,w.lh,w.lu,w.lm,w.kh,λk hk=>by rw[hl];exact w.ku k hk,w.km,w.ge,w.con.set (.inl w.ge.2.2.1) (Nat.le_refl _)⟩;rw[au n2,hr];simp only[WB.cells,hl]
theorem Wk.aiG(w:Wk h n b v C s){d:Int}:Wk (h.set b.g (.row 199 (b.cells v C ⟨d,s.ah,s.used,s.marks⟩))) n b v C ⟨d,s.ah,s.used,s.marks⟩:=by
 obtain⟨n1,n2,n3,n4,n5,n6⟩:=w.ne;exact⟨aF,(au n1.symm).trans w.hs,(au n2.symm).trans w.us,(au n3.symm).trans w.ms,w.lg,w.lh,w.lu,w.lm,w.kh,w.ku,w.km,w.ge,w.con.set (.inl w.ge.1) (Nat.le_refl _)⟩
theorem WB.ux(b:WB){h:AH}{n:Nat}{x:Nat}{o:AO}(hx:b.X x):UX b.X h n (h.set x o) n:=UX.refl.set (.inl hx) (Nat.le_refl _)
theorem AB(K:Nat)(w:Wk h n b v C s){i:Nat}(hi:i<s.marks.length)(st:Int)(hQ:∀h' n',Wk h' n' b v C ⟨s.day,s.ah,s.used,s.marks.set i ((bO s.marks i).ended st)⟩->UX b.X h n h' n'->Q (.bJ []) h' n'):CW (EF (K+1)) 254 [.p b.g 0,.i .i64 (i:Nat),.i .i64 st] h n Q:=by
 obtain⟨n1,n2,n3,n4,n5,n6⟩:=w.ne;refine aC aip rfl ?_;repeat' (first|(simp (disch:=omega) only[go_sem,simprocAttr,abS,w.row,w.ms,WB.cells,cK hi,ab3 hi,VE hi,ab7 hi])|(refine aS ?_ ?_<;>(intro hb hd;rw[hb];clear hb))|(with_reducible refine aj ?_))
 refine hQ _ _ (((w.sP (ms:=s.marks.set i ⟨st,(bO s.marks i).left,(bO s.marks i).got,(bO s.marks i).aT,(bO s.marks i).paused⟩) ?_).sP (ms:=s.marks.set i ⟨st,0,(bO s.marks i).got,(bO s.marks i).aT,(bO s.marks i).paused⟩) ?_).sP ?_) (((UX.refl.set (.inl (.inr (.inr (.inr rfl)))) (Nat.le_refl _)).set (.inl (.inr (.inr (.inr rfl)))) (Nat.le_refl _)).set (.inl (.inr (.inr (.inr rfl)))) (Nat.le_refl _))<;>simp
end
end
end
section
noncomputable section
theorem aY.VF{h:AH}{n:Nat}{v:CS}{C:ay}(hs:aY h n v C){i:Nat}(hi:i<C.clauses.length):
 ∃b o a t,dL 16 (some v.k) (some (.i .i64 (i:Nat)))=some (.p b o)/\C.clauses[i]?=some a/\b<n/\SL h n 2 t bU.av a.start/\RD h b o 16 (a.av t):=by
 obtain⟨ss,e1,e2,e3⟩:=hs.clauses;obtain⟨a,ha⟩:∃a,C.clauses[i]?=some a:=⟨C.clauses[i],List.getElem?_eq_some_iff.2 ⟨hi,rfl⟩⟩;obtain⟨t,ht⟩:∃t,ss[i]?=some t:=⟨ss[i],List.getElem?_eq_some_iff.2 ⟨by omega,rfl⟩⟩;have hz:(C.clauses.zip ss)[i]?=some (a,t):=by rw[List.getElem?_zip_eq_some];exact⟨ha,ht⟩
 have hl:(C.clauses.zip ss).length=C.clauses.length:=by simp[e1]
 have hS:SL h n 16 v.k (λp:aG×AV=>p.1.av p.2) (C.clauses.zip ss):=⟨λ_=>rfl,by rw[hl];exact e2⟩;obtain⟨b,o,p,h1,h2,h3,h4⟩:=hS.dL (k:=(i:Nat)) (by omega) (by omega) (by omega);rw[show((i:Nat):Int).toNat=i by omega,hz]at h2;cases h2
 exact⟨b,o,a,t,h1,ha,h3,e3 i a t ha ht,h4⟩
theorem aJ{S:SK}{w:Nat}{x:AV}{k:Int}{d:MD}{r:List MR}{l:List AV}{s:List It}{f:FT}{h:AH}{n:Nat}{F:Fm}{Q:PQ}{p:AV}(e:dL w (some x) (some (.i .i64 k))=some p):Vq S w (some x) (some (.i .i64 k)) d r l s f h n F Q=mG S d p r l s f h n F Q:=by
 show IA w x k (λp=>mG S d p r l s f h n F Q)=_;unfold dL at e;split at e
 case h_2=>cases e
 rename_i b lo o m c j k' e1 e2;cases e1
 cases e2
 split at e
 case isFalse=>cases e
 rename_i hk;cases e
 apply propext;constructor
 .rintro⟨b',lo',o',m',c',e,_,_,q⟩
  cases e
  exact q
 .intro q
  exact⟨b,lo,o,m,c,rfl,hk.1,hk.2,q⟩
section
variable {h h':AH} {n n':Nat} {b:WB} {v:CS} {C:ay} {s:aI} {Q:AV->AH->Nat->Prop}
abbrev aI.eX(s:aI)(ms:List aA):aI:=⟨s.day,s.ah,s.used,ms⟩
abbrev WkQ(b:WB)(v:CS)(C:ay)(s:aI)(i:Nat)(m:aA)(h:AH)(n:Nat)(Q:AV->AH->Nat->Prop):Prop:=∀h' n',Wk h' n' b v C (s.eX (s.marks.set i m))->UX b.X h n h' n'->Q (.bJ []) h' n'
theorem WB.xm(b:WB):b.X b.bm:=.inr (.inr (.inr rfl))
theorem D_(K:Nat)(w:Wk h n b v C s){i:Nat}(hi:i<s.marks.length)(hQ:WkQ b v C s i ((bO s.marks i).ended 3) h n Q):CW (EF (K+2)) 205 [.p b.g 0,.i .i64 (i:Nat)] h n Q:=by
 refine aC c97 rfl ?_;repeat' (first|(simp (disch:=omega) only[go_sem,simprocAttr,m97])|(refine aS ?_ ?_<;>(intro hb hd;rw[hb];clear hb))|(with_reducible refine aj ?_))
 rw[aR];refine AB _ w hi 3 λh' n' w' u=>?_;repeat' (first|(simp (disch:=omega) only[go_sem,simprocAttr])|(refine aS ?_ ?_<;>(intro hb hd;rw[hb];clear hb))|(with_reducible refine aj ?_))
 exact hQ _ _ w' u
theorem FP(K:Nat)(w:Wk h n b v C s){i:Nat}(hi:i<s.marks.length)(hQ:WkQ b v C s i ((bO s.marks i).ended 5) h n Q):CW (EF (K+2)) 206 [.p b.g 0,.i .i64 (i:Nat)] h n Q:=by
 refine aC c98 rfl ?_;repeat' (first|(simp (disch:=omega) only[go_sem,simprocAttr,m98])|(refine aS ?_ ?_<;>(intro hb hd;rw[hb];clear hb))|(with_reducible refine aj ?_))
 rw[aR];refine AB _ w hi 5 λh' n' w' u=>?_;repeat' (first|(simp (disch:=omega) only[go_sem,simprocAttr])|(refine aS ?_ ?_<;>(intro hb hd;rw[hb];clear hb))|(with_reducible refine aj ?_))
 exact hQ _ _ w' u
theorem Wk.same(w:Wk h n b v C s){i:Nat}(hi:i<s.marks.length):s.eX (s.marks.set i (bO s.marks i))=s:=by
 obtain⟨d,hs,us,ms⟩:=s;show aI.mk d hs us (ms.set i (bO ms i))=_;congr 1;refine List.ext_getElem? λj=>?_;rw[List.getElem?_set];by_cases e:i=j
 .subst e;rw[if_pos rfl,if_pos hi];exact(gL hi).symm
 .rw[if_neg e]
theorem Iu(K:Nat)(w:Wk h n b v C s){i:Nat}(hi:i<s.marks.length)(hQ:WkQ b v C s i (bO s.marks i).violated h n Q):CW (EF (K+2)) 210 [.p b.g 0,.i .i64 (i:Nat)] h n Q:=by
 refine aC air rfl ?_;repeat' (first|(simp (disch:=omega) only[go_sem,simprocAttr,abU,w.row,w.ms,WB.cells,b_ hi,Yl hi])|(refine aS ?_ ?_<;>(intro hb hd;rw[hb];clear hb))|(with_reducible refine aj ?_))
 .rw[aR]
  refine AB _ w hi 4 λh' n' w' u=>?_;repeat' (first|(simp (disch:=omega) only[go_sem,simprocAttr])|(refine aS ?_ ?_<;>(intro hb hd;rw[hb];clear hb))|(with_reducible refine aj ?_))
  refine hQ _ _ ?_ u;unfold aA.violated;simp_all
 .refine hQ _ _ ?_ UX.refl
  unfold aA.violated;rw[hd,cond_true,w.same hi];exact w
theorem Iw(K:Nat)(w:Wk h n b v C s){i:Nat}(hi:i<s.marks.length)(hg:(bO s.marks i).got<=1000000)(hg0: -1000000<=(bO s.marks i).got){k:aG}(hk:C.clauses[i]?=some k)(hQ:WkQ b v C s i ((bO s.marks i).performed k.need) h n Q):CW (EF (K+2)) 209 [.p b.g 0,.i .i64 (i:Nat)] h n Q:=by
 obtain⟨n1,n2,n3,n4,n5,n6⟩:=w.ne;have w1:=w.sP (ms:=s.marks.set i ⟨(bO s.marks i).status,(bO s.marks i).left,(bO s.marks i).got+1,(bO s.marks i).aT,(bO s.marks i).paused⟩) (by simp);have u1:=b.ux (h:=h) (n:=n) (o:=.row 185 ((s.marks.set i ⟨(bO s.marks i).status,(bO s.marks i).left,(bO s.marks i).got+1,(bO s.marks i).aT,(bO s.marks i).paused⟩).flatMap aA.av)) b.xm;obtain⟨cb,co,k',t,i1,i2,i3,i4,rd⟩:=w1.jQ.VF (i:=i) (List.getElem?_eq_some_iff.1 hk).1;rw[hk]at i2;cases i2;have hi1:i<(s.marks.set i ⟨(bO s.marks i).status,(bO s.marks i).left,(bO s.marks i).got+1,(bO s.marks i).aT,(bO s.marks i).paused⟩).length:=by simpa using hi
 have wid:gN .i64 ((bO s.marks i).got+1)=(bO s.marks i).got+1:=dI (by omega) (by omega);refine aC aiq rfl ?_;repeat' (first|(simp (disch:=omega) only[go_sem,simprocAttr,abT,wid,w.row,w.ms,WB.cells,b_ hi,cK hi,aiC hi,aiD hi,ab6 hi,i1,rd.el,rd.hd])|(refine aS ?_ ?_<;>(intro hb hd;rw[hb];clear hb))|(with_reducible refine aj ?_))
 .rw[aR]
  refine AB _ w1 hi1 3 λh' n' w' u=>?_;repeat' (first|(simp (disch:=omega) only[go_sem,simprocAttr])|(refine aS ?_ ?_<;>(intro hb hd;rw[hb];clear hb))|(with_reducible refine aj ?_))
  refine hQ _ _ ?_ (u1.trans u);have e:(bO s.marks i).performed k.need=aA.ended ⟨(bO s.marks i).status,(bO s.marks i).left,(bO s.marks i).got+1,(bO s.marks i).aT,(bO s.marks i).paused⟩ 3:=by
   unfold aA.performed;rw[show((bO s.marks i).got+1==k.need)=true by simpa using hd];rfl
  rw[e];simpa [vP hi]using w'
 .refine hQ _ _ ?_ u1
  have e:(bO s.marks i).performed k.need=⟨(bO s.marks i).status,(bO s.marks i).left,(bO s.marks i).got+1,(bO s.marks i).aT,(bO s.marks i).paused⟩:=by
   unfold aA.performed;rw[show((bO s.marks i).got+1==k.need)=false by simpa using hd];rfl
  rw[e];exact w1
theorem LY(K:Nat)(w:Wk h n b v C s){i:Nat}(hi:i<s.marks.length){k:aG}(hk:C.clauses[i]?=some k)(hQ:WkQ b v C s i ((bO s.marks i).expired k.gK) h n Q):CW (EF (K+2)) 204 [.p b.g 0,.i .i64 (i:Nat)] h n Q:=by
 obtain⟨n1,n2,n3,n4,n5,n6⟩:=w.ne;obtain⟨cb,co,k',t,i1,i2,i3,i4,rd⟩:=w.jQ.VF (i:=i) (List.getElem?_eq_some_iff.1 hk).1;rw[hk]at i2;cases i2;refine aC c96 rfl ?_;repeat' (first|(simp (disch:=omega) only[go_sem,simprocAttr,m96,w.row,w.ms,WB.cells,b_ hi,cK hi,aiB hi,ab3 hi,VE hi,i1,aJ i1,rd.el,rd.hd])|(refine aS ?_ ?_<;>(intro hb hd;rw[hb];clear hb))|(with_reducible refine aj ?_))
 .rename_i h1
  have w1:=w.sP (ms:=s.marks.set i ⟨2,(bO s.marks i).left,(bO s.marks i).got,(bO s.marks i).aT,(bO s.marks i).paused⟩) (by simp);have w2:=w1.sP (ms:=s.marks.set i ⟨2,k.gK,(bO s.marks i).got,(bO s.marks i).aT,(bO s.marks i).paused⟩) (by simp);refine hQ _ _ ?_ ((UX.refl.set (.inl b.xm) (Nat.le_refl _)).set (.inl b.xm) (Nat.le_refl _));have e:(bO s.marks i).expired k.gK=⟨2,k.gK,(bO s.marks i).got,(bO s.marks i).aT,(bO s.marks i).paused⟩:=by
   unfold aA.expired;rw[show((bO s.marks i).status==1&&decide (0<k.gK))=true by simp;omega];rfl
  rw[e];exact w2
 all_goals
  rw[aR];refine AB _ w hi 4 λh' n' w' u=>?_;repeat' (first|(simp (disch:=omega) only[go_sem,simprocAttr])|(refine aS ?_ ?_<;>(intro hb hd;rw[hb];clear hb))|(with_reducible refine aj ?_))
  refine hQ _ _ ?_ u;have e:(bO s.marks i).expired k.gK=(bO s.marks i).ended 4:=by
   unfold aA.expired;rw[show((bO s.marks i).status==1&&decide (0<k.gK))=false by simp;omega];rfl
  rw[e];exact w'
end
end
end
section
noncomputable section
section
variable {h h':AH} {n n':Nat} {b:WB} {v:CS} {C:ay} {s:aI} {Q:AV->AH->Nat->Prop}
theorem rdh{e:Nat}{hs:List Int}{j:Nat}(h:j<hs.length):pG (some (.row e (hs.flatMap ci))) (j*1) none=some (.i .i64 (gY hs (j:Nat))):=by
 have h1:hs[j]?=some hs[j]:=List.getElem?_eq_some_iff.2 ⟨h,rfl⟩;have h2:=vO (c:=ci) (w:=1) (e:=e) (λ_=>rfl) h1 (j:=0) (by omega);unfold gY;rw[show((j:Nat):Int).toNat=j by omega,h1];exact h2
theorem TA(ms:List aA):idle ms<=ms.length:=List.length_filter_le _ _
theorem vQ(K:Nat)(w:Wk h n b v C s)(ok:C.Ok)(hl:s.marks.length=C.clauses.length)(hh:s.ah.length=C.ah.length)(hQ:∀h' n',Wk h' n' b v C (s.eX (C.begin s.ah s.marks))->UX b.X h n h' n'->Q (.bJ []) h' n'):CW (EF (K+2)) 72 [.p b.g 0] h n Q:=by
 have FQ:=ok.dJ;refine aC c46 rfl ?_;repeat' (first|(simp (disch:=omega) only[go_sem,simprocAttr,ub.old,m46])|(simp (disch:=omega) only[go_sem,simprocAttr,m46])|(refine aS ?_ ?_<;>(intro hb hd;rw[hb];clear hb))|(with_reducible refine aj ?_))
 refine iF (λm h2 n2 F=>∃ms x,Wk h2 n2 b v C (s.eX ms)/\UX b.X h n h2 n2/\F=[(0,.p b.g 0),(2,.b x)]/\ms.length=s.marks.length/\(x=true->C.begin s.ah ms=C.begin s.ah s.marks/\m=idle ms+1)/\(x=false->m=0/\ms=C.begin s.ah s.marks)) (idle s.marks+1) (by have:=TA s.marks;omega) ⟨_,⟨s.marks,true,w,UX.refl,rfl,rfl,λ_=>⟨rfl,rfl⟩,λe=>by cases e⟩,by(repeat' (first|exact aO|refine aM rfl ?_))⟩ ?_;rintro m h2 n2 F ⟨ms,x,w2,u2,rfl,hml,hx1,hx2⟩;cases x with
 |false=>
  repeat' (first|(simp (disch:=omega) only[go_sem,simprocAttr,ub.old])|(simp (disch:=omega) only[go_sem,simprocAttr])|(refine aS ?_ ?_<;>(intro hb hd;rw[hb];clear hb))|(with_reducible refine aj ?_))
  obtain⟨_,rfl⟩:=hx2 rfl;exact hQ _ _ w2 u2
 |true=>
  obtain⟨hb,rfl⟩:=hx1 rfl;repeat' (first|(simp (disch:=omega) only[go_sem,simprocAttr,ub.old,w2.row,WB.cells,w2.jQ.lk])|(simp (disch:=omega) only[go_sem,simprocAttr,w2.row,WB.cells,w2.jQ.lk])|(refine aS ?_ ?_<;>(intro hb hd;rw[hb];clear hb))|(with_reducible refine aj ?_))
  refine bP C.clauses.length (λk h3 n3 G=>Wk h3 n3 b v C (s.eX (bQ C s.ah ms k))/\UX b.X h n h3 n3/\G=[(0,.p b.g 0),(2,.b (cZ C s.ah ms k)),(11,v.k)]) (by omega) (by omega) (by omega) (by omega) (λk h3 n3 G ⟨_,_,e⟩=>by subst e;exact⟨rfl,rfl⟩) ⟨rfl,rfl,_,⟨w2,u2,rfl⟩,by(repeat' (first|exact aO|refine aM rfl ?_))⟩ ?_ ?_
  .rintro k h3 n3 G hk ⟨w3,u3,rfl⟩
   have g1:=w3.lg;have g2:=w3.lh;have g3:=w3.lu;have g4:=w3.lm;obtain⟨cb,co,kc,t,i1,i2,i3,i4,rd⟩:=w3.jQ.VF hk;have zl:=ok.clause i2;have hlen:(bQ C s.ah ms k).length=ms.length:=qz C s.ah ms k;have hkm:k<(bQ C s.ah ms k).length:=by omega
   have hm:=gL hkm;have hf:eH C (bQ C s.ah ms k) k=dO (bQ C s.ah ms k) kc (bO (bQ C s.ah ms k) k):=by unfold eH;rw[i2,hm]
   have next:∀h4 n4 (F:Fm),Wk h4 n4 b v C (s.eX (bQ C s.ah ms (k+1)))->UX b.X h3 n3 h4 n4->lk F 13=some (.i .i64 (k:Nat))->lk F 12=some (.i .i64 (C.clauses.length:Nat))->lk F 0=some (.p b.g 0)->lk F 2=some (.b (cZ C s.ah ms (k+1)))->lk F 11=some v.k->
    (lk F 13=some (.i .i64 (k:Nat))/\lk F 12=some (.i .i64 (C.clauses.length:Nat))/\∃G,(Wk h4 n4 b v C (s.eX (bQ C s.ah ms (k+1)))/\UX b.X h n h4 n4/\G=[(0,.p b.g 0),(2,.b (cZ C s.ah ms (k+1))),(11,v.k)])/\∀m v,lk G m=some v->lk F m=some v):=
    λh4 n4 F a1 a2 a3 a4 a5 a6 a7=>⟨a3,a4,_,⟨a1,u3.trans a2,rfl⟩,aM a5 (aM a6 (aM a7 aO))⟩
   have ends:∀h4 n4 (F:Fm),dO (bQ C s.ah ms k) kc (bO (bQ C s.ah ms k) k)=true->Wk h4 n4 b v C (s.eX ((bQ C s.ah ms k).set k (nu s.ah kc)))->UX b.X h3 n3 h4 n4->lk F 13=some (.i .i64 (k:Nat))->lk F 12=some (.i .i64 (C.clauses.length:Nat))->lk F 0=some (.p b.g 0)->lk F 2=some (.b true)->lk F 11=some v.k->_:=
    λh4 n4 F hd a1 a2 a3 a4 a5 a6 a7=>next h4 n4 F (by unfold bQ iq;rw[i2,hf,hd];exact a1) a2 a3 a4 a5 (by rw[a6];unfold cZ;rw[hf,hd,Bool.or_true]) a7
   by_cases hk4:kc.kind=4
   .have hb4:kZ s.ah kc= -1:=by unfold kZ;simp[hk4]
    have e4:nu s.ah kc=⟨1,kc.after,0, -1,false⟩:=by unfold nu;rw[hb4]
    have stl:=stm (e:=185) hkm ⟨1,kc.after,0, -1,false⟩;repeat' (first|(simp (disch:=omega) only[go_sem,simprocAttr,ub.old,aJ i1,rd.el,rd.hd,rd.all,aG.av,w3.row,w3.ms,WB.cells,hk4,cK hkm,stl,BEq.rfl,cond_true])|(simp (disch:=omega) only[go_sem,simprocAttr,aJ i1,rd.el,rd.hd,rd.all,aG.av,w3.row,w3.ms,WB.cells,hk4,cK hkm,stl,BEq.rfl,cond_true])|((first|rw[aR]|rw[bF]);with_reducible refine Az _ (w3.jQ.up aH) (w3.st.up aH) i2 hm (by have:=zl.qH;omega) (λc hc=>by have:=zl.start c hc;show 0<=c.clause/\c.clause<((bQ C s.ah ms k).length:Nat);omega) λh2 n2 u2=>?_;(first|replace ub:=Up.trans ub (Up.trans aH u2)|have ub:=u2);have hle:=ub.le;clear u2)|(refine aS ?_ ?_<;>(intro hb hd;rw[hb];clear hb))|(with_reducible refine aj ?_))
    .refine next _ _ _ ?_ (UX.up aH) rfl rfl rfl ?_ rfl
     .unfold bQ iq
      rw[i2,hf,hd];exact w3.up aH
     .rw[show cZ C s.ah ms (k+1)=cZ C s.ah ms k by show(cZ C s.ah ms k||eH C (bQ C s.ah ms k) k)=_;rw[hf,hd,Bool.or_false]];rfl
    .exact ends _ _ _ hd (by rw[e4];exact(w3.up aH).sP (ms:=(bQ C s.ah ms k).set k _) (by simp)) ((UX.up aH).set (.inl b.xm) (Nat.le_refl _)) rfl rfl rfl rfl rfl
   .obtain⟨j,hj,hj2⟩:∃j:Nat,kc.role=j/\j<s.ah.length:=by
     have:=zl.role hk4;exact⟨kc.role.toNat,by omega,by omega⟩
    have hb4:kZ s.ah kc=gY s.ah j:=by
     unfold kZ;rw[show(kc.kind==4)=false by simpa using hk4,hj];rfl
    have e4:nu s.ah kc=⟨1,kc.after,0,gY s.ah j,false⟩:=by unfold nu;rw[hb4]
    have stl:=stm (e:=185) hkm ⟨1,kc.after,0,gY s.ah j,false⟩;repeat' (first|(simp (disch:=omega) only[go_sem,simprocAttr,ub.old,aJ i1,rd.el,rd.hd,rd.all,aG.av,w3.row,w3.ms,w3.hs,WB.cells,hk4,hj,cK hkm,cK hj2,rdh hj2,stl])|(simp (disch:=omega) only[go_sem,simprocAttr,aJ i1,rd.el,rd.hd,rd.all,aG.av,w3.row,w3.ms,w3.hs,WB.cells,hk4,hj,cK hkm,cK hj2,rdh hj2,stl])|((first|rw[aR]|rw[bF]);with_reducible refine Az _ (w3.jQ.up aH) (w3.st.up aH) i2 hm (by have:=zl.qH;omega) (λc hc=>by have:=zl.start c hc;show 0<=c.clause/\c.clause<((bQ C s.ah ms k).length:Nat);omega) λh2 n2 u2=>?_;(first|replace ub:=Up.trans ub (Up.trans aH u2)|have ub:=u2);have hle:=ub.le;clear u2)|(refine aS ?_ ?_<;>(intro hb hd;rw[hb];clear hb))|(with_reducible refine aj ?_))
    .refine next _ _ _ ?_ (UX.up aH) rfl rfl rfl ?_ rfl
     .unfold bQ iq
      rw[i2,hf,hd];exact w3.up aH
     .rw[show cZ C s.ah ms (k+1)=cZ C s.ah ms k by show(cZ C s.ah ms k||eH C (bQ C s.ah ms k) k)=_;rw[hf,hd,Bool.or_false]];rfl
    .exact ends _ _ _ hd (by rw[e4];exact(w3.up aH).sP (ms:=(bQ C s.ah ms k).set k _) (by simp)) ((UX.up aH).set (.inl b.xm) (Nat.le_refl _)) rfl rfl rfl rfl rfl
  .rintro h3 n3 G ⟨w3,u3,rfl⟩
   repeat' (first|(simp (disch:=omega) only[go_sem,simprocAttr,ub.old])|(simp (disch:=omega) only[go_sem,simprocAttr])|(refine aS ?_ ?_<;>(intro hb hd;rw[hb];clear hb))|(with_reducible refine aj ?_))
   rw[vD];have hlen:=qz C s.ah ms C.clauses.length;cases hfd:cZ C s.ah ms C.clauses.length with
   |true=>
    have:=(gD C s.ah ms C.clauses.length).1 hfd;exact⟨idle (bQ C s.ah ms C.clauses.length)+1,_,by omega,⟨_,true,w3,u3,rfl,by omega,λ_=>⟨by rw[<-Fy hfd];exact hb,rfl⟩,λe=>by cases e⟩,by(repeat' (first|exact aO|refine aM rfl ?_))⟩
   |false=>
    refine⟨0,_,by omega,⟨_,false,w3,u3,rfl,by omega,λe=>(by cases e),λ_=>⟨rfl,?_⟩⟩,by(repeat' (first|exact aO|refine aM rfl ?_))⟩;rw[(gD C s.ah ms C.clauses.length).2 hfd,<-hb,yg hfd]
end
end
end
section
noncomputable section
set_option maxRecDepth 1000000
set_option maxHeartbeats 4000000
def Yn:MC:=vF 244
def aiH:=vT 244 Yn
def acd:MC:=vF 176
def aiI:=vT 176 acd
end
end
section
noncomputable section
section
variable {h h':AH} {n n':Nat} {Q:AV->AH->Nat->Prop}
theorem Pw(K:Nat)(x:Int)(hQ:∀h' n',Up h n h' n'->Q (.b false) h' n'):CW (EF (K+1)) 176 [.i .i64 x] h n Q:=by
 refine aC aiI rfl ?_;repeat' (first|(simp (disch:=omega) only[go_sem,simprocAttr,acd])|(refine aS ?_ ?_<;>(intro hb hd;rw[hb];clear hb))|(with_reducible refine aj ?_))
 exact hQ _ _ aH
theorem LZ(K:Nat)(x:Int)(hQ:∀h' n',Up h n h' n'->Q (.b false) h' n'):CW (EF (K+1)) 255 [.i .i64 x] h n Q:=by
 refine aC aiz rfl ?_;repeat' (first|(simp (disch:=omega) only[go_sem,simprocAttr,abY])|(refine aS ?_ ?_<;>(intro hb hd;rw[hb];clear hb))|(with_reducible refine aj ?_))
 exact hQ _ _ aH
theorem TB(K:Nat)(x y:Int)(hQ:∀h' n',Up h n h' n'->Q (.b (decide (x<y))) h' n'):CW (EF (K+2)) 244 [.i .i64 x,.i .i64 y] h n Q:=by
 refine aC aiH rfl ?_;repeat' (first|(simp (disch:=omega) only[go_sem,simprocAttr,ub.old,Yn])|(simp (disch:=omega) only[go_sem,simprocAttr,Yn])|((first|rw[aR]|rw[bF]);with_reducible refine Pw _ _ λh2 n2 u2=>?_;(first|replace ub:=Up.trans ub (Up.trans aH u2)|have ub:=u2);have hle:=ub.le;clear u2)|(refine aS ?_ ?_<;>(intro hb hd;rw[hb];clear hb))|(with_reducible refine aj ?_))
 exact hQ _ _ aH
@[go_sem] theorem ace {P:Program} {ty:TypeId} {k:IntKind} {a:Int}:(eB P ty .shr).run (.i k a) (.i k 1)=some (.i k (a/2)):=by
 cases k<;>rfl
theorem AJ{l:List Int}(hs:l.Pairwise (· < ·)){x:Int}{i:Nat}(h1:∀j y,j<i->l[j]?=some y->y<x)(h2:∀j y,i<=j->l[j]?=some y->x<=y):l.contains x=decide (l[i]?=some x):=by
 rw[Bool.eq_iff_iff,List.contains_iff_mem,decide_eq_true_eq];constructor
 .intro hm
  obtain⟨j,hj⟩:=List.getElem?_of_mem hm;by_cases c1:j<i
  .have:=h1 j x c1 hj;omega
  by_cases c2:j=i
  .subst c2;exact hj
  .have hlt:=(List.getElem?_eq_some_iff.1 hj).1
   have h3:=h2 i l[i] (Nat.le_refl _) (List.getElem?_eq_some_iff.2 ⟨by omega,rfl⟩);have h4:=List.pairwise_iff_getElem.1 hs i j (by omega) hlt (by omega);have h5:=(List.getElem?_eq_some_iff.1 hj).2;omega
 .exact List.mem_of_getElem?
theorem AL(K:Nat){v:AV}{l:List Int}(x:Int)(hv:SL h n 1 v ci l)(hs:l.Pairwise (· < ·))(hl:l.length<=1000000)(hQ:∀(i:Nat) h' n',(l.contains x=true->l[i]?=some x)->Up h n h' n'->Q (.bJ [.i .i64 (i:Nat),.b (l.contains x)]) h' n'):CW (EF (K+3)) 207 [v,.i .i64 x] h n Q:=by
 refine aC c99 rfl ?_;repeat' (first|(simp (disch:=omega) only[go_sem,simprocAttr,ub.old,m99,hv.len])|(simp (disch:=omega) only[go_sem,simprocAttr,m99,hv.len])|(refine aS ?_ ?_<;>(intro hb hd;rw[hb];clear hb))|(with_reducible refine aj ?_))
 refine iF (λm h2 n2 F=>∃i j:Nat,m=j - i/\i<=j/\j<=l.length/\Up h n h2 n2/\(∀k y,k<i->l[k]?=some y->y<x)/\(∀k y,j<=k->l[k]?=some y->x<=y)/\F=[(0,v),(1,.i .i64 x),(6,.i .i64 (l.length:Nat)),(7,.i .i64 (i:Nat)),(8,.i .i64 (j:Nat))]) l.length (by omega) ⟨_,⟨0,l.length,rfl,Nat.zero_le _,Nat.le_refl _,Up.refl _ _,by omega,λk y hk e=>(by rw[List.getElem?_eq_none (by omega)]at e;cases e),rfl⟩,by(repeat' (first|exact aO|refine aM rfl ?_))⟩ ?_;rintro m h2 n2 F ⟨i,j,rfl,hij,hj,u,h1,h3,rfl⟩;by_cases hlt:i<j
 .have hdec:decide ((i:Int)<(j:Int))=true:=decide_eq_true (by omega)
  obtain⟨q,hq,hq1,hq2⟩:∃q:Nat,gN .i64 (gN .u64 (gN .i64 ((i:Int)+j))/2)=(q:Int)/\i<=q/\q<j:=by
   rw[show gN .i64 ((i:Int)+j)=(i:Int)+j from dI (by omega) (by omega),show gN .u64 ((i:Int)+j)=(i:Int)+j from vL (by omega) (by omega),dI (by omega) (by omega)];exact⟨((i+j)/2:Nat),by omega,by omega,by omega⟩
  obtain⟨b1,o1,y,i1,hy,hb1,rd⟩:=hv.dL (k:=(q:Nat)) (by omega) (by omega) (by omega);rw[show((q:Nat):Int).toNat=q by omega]at hy;have uo:=u.old b1 hb1;repeat' (first|(simp (disch:=omega) only[go_sem,simprocAttr,ub.old,hdec,hq,aJ i1,uo,rd.el,rd.hd])|(simp (disch:=omega) only[go_sem,simprocAttr,hdec,hq,aJ i1,uo,rd.el,rd.hd])|((first|rw[aR]|rw[bF]);with_reducible refine TB _ _ _ λh2 n2 u2=>?_;(first|replace ub:=Up.trans ub (Up.trans aH u2)|have ub:=u2);have hle:=ub.le;clear u2)|(refine aS ?_ ?_<;>(intro hb hd;rw[hb];clear hb))|(with_reducible refine aj ?_))
  .have hw:gN .i64 ((q:Int)+1)=((q+1:Nat):Int):=by rw[dI (by omega) (by omega)];rfl
   repeat' (first|(simp (disch:=omega) only[go_sem,simprocAttr,ub.old,hw])|(simp (disch:=omega) only[go_sem,simprocAttr,hw])|(refine aS ?_ ?_<;>(intro hb hd;rw[hb];clear hb))|(with_reducible refine aj ?_))
   rw[vD];refine⟨j - (q+1),_,by omega,⟨q+1,j,rfl,by omega,hj,by exact aH,λk z hk hz=>?_,h3,rfl⟩,by(repeat' (first|exact aO|refine aM rfl ?_))⟩;by_cases e:k=q
   .subst e;rw[hy]at hz;cases hz;exact hd
   .have:=(List.pairwise_iff_getElem.1 hs) k q (List.getElem?_eq_some_iff.1 hz).1 (List.getElem?_eq_some_iff.1 hy).1 (by omega)
    have:=(List.getElem?_eq_some_iff.1 hz).2;have:=(List.getElem?_eq_some_iff.1 hy).2;omega
  .rw[vD]
   refine⟨q - i,_,by omega,⟨i,q,rfl,hq1,by omega,by exact aH,h1,λk z hk hz=>?_,rfl⟩,by(repeat' (first|exact aO|refine aM rfl ?_))⟩;by_cases e:k=q
   .subst e;rw[hy]at hz;cases hz;omega
   .have:=(List.pairwise_iff_getElem.1 hs) q k (List.getElem?_eq_some_iff.1 hy).1 (List.getElem?_eq_some_iff.1 hz).1 (by omega)
    have:=(List.getElem?_eq_some_iff.1 hz).2;have:=(List.getElem?_eq_some_iff.1 hy).2;omega
 .obtain rfl:i=j:=by omega
  have hdec:decide ((i:Int)<(i:Int))=false:=by simp
  replace hQ:=λh' n'=>hQ i h' n' (by rw[AJ hs h1 h3];exact of_decide_eq_true);rw[AJ hs h1 h3]at hQ;by_cases hi:i<l.length
  .obtain⟨b1,o1,y,i1,hy,hb1,rd⟩:=hv.dL (k:=(i:Nat)) (by omega) (by omega) (by omega)
   rw[show((i:Nat):Int).toNat=i by omega]at hy;have uo:=u.old b1 hb1;rw[hy]at hQ;have hil:decide ((i:Int)<(l.length:Int))=true:=decide_eq_true (by omega);repeat' (first|(simp (disch:=omega) only[go_sem,simprocAttr,ub.old,hdec,hil,aJ i1,uo,rd.el,rd.hd])|(simp (disch:=omega) only[go_sem,simprocAttr,hdec,hil,aJ i1,uo,rd.el,rd.hd])|((first|rw[aR]|rw[bF]);with_reducible refine LZ _ _ λh2 n2 u2=>?_;(first|replace ub:=Up.trans ub (Up.trans aH u2)|have ub:=u2);have hle:=ub.le;clear u2)|(refine aS ?_ ?_<;>(intro hb hd;rw[hb];clear hb))|(with_reducible refine aj ?_))
   all_goals
    have e:decide (some y=some x)=decide (y=x):=by simp
    rw[e]at hQ
   .rw[decide_eq_true hd]at hQ
    exact hQ _ _ aH
   all_goals
    rw[decide_eq_false hd]at hQ;exact hQ _ _ aH
  .rw[List.getElem?_eq_none (by omega)]at hQ
   have hil:decide ((i:Int)<(l.length:Int))=false:=decide_eq_false (by omega);repeat' (first|(simp (disch:=omega) only[go_sem,simprocAttr,ub.old,hdec,hil])|(simp (disch:=omega) only[go_sem,simprocAttr,hdec,hil])|(refine aS ?_ ?_<;>(intro hb hd;rw[hb];clear hb))|(with_reducible refine aj ?_))
   exact hQ _ _ aH
theorem L6(K:Nat){v:AV}{l:List Int}(x:Int)(hv:SL h n 1 v ci l)(hs:l.Pairwise (· < ·))(hl:l.length<=1000000)(hQ:∀i h' n',Up h n h' n'->Q (.bJ [.i .i64 i,.b (l.contains x)]) h' n'):CW (EF (K+3)) 207 [v,.i .i64 x] h n Q:=AL K x hv hs hl λ_ _ _ _ u=>hQ _ _ _ u
end
end
end
section
noncomputable section
section
variable {h h':AH} {n n':Nat} {b:WB} {v:CS} {C:ay} {s:aI} {Q:AV->AH->Nat->Prop}
theorem vR(K:Nat){g:Nat}(hQ:∀bx h' n',Up h n h' n'->h'.get bx=some (.row 197 [.p g 0])->n<=bx->bx<n'->Q (.f 256 [.p bx 0]) h' n'):CW (EF (K+1)) 208 [.p g 0] h n Q:=by
 refine aC ais rfl ?_;repeat' (first|(simp (disch:=omega) only[go_sem,simprocAttr,abW])|(refine aS ?_ ?_<;>(intro hb hd;rw[hb];clear hb))|(with_reducible refine aj ?_))
 exact hQ _ _ _ aH aF (by omega) (by omega)
def iP(upd:Nat->List aA->List aA)(ms:List aA)(k:Nat):List aA:=(iB ms k).foldl (λms j=>upd j ms) ms
theorem nD(upd:Nat->List aA->List aA){ms:List aA}{k:Nat}(hk:k<ms.length):iP upd ms (k+1)=cond (bO ms k).runs (upd k (iP upd ms k)) (iP upd ms k):=by
 unfold iP;rw[iB,gL hk];dsimp only;cases (bO ms k).runs with
 |true=>rw[cond_true,cond_true,List.foldl_append];rfl
 |false=>rfl
theorem lD{upd:Nat->List aA->List aA}(Dc:∀i ms,(upd i ms).length=ms.length){ms:List aA}:∀k,k<=ms.length->(iP upd ms k).length=ms.length
 |0,_=>rfl
 |k+1,hk=>by
  rw[nD upd (by omega)];cases (bO ms k).runs with
  |true=>rw[cond_true,Dc,lD Dc k (by omega)]
  |false=>exact lD Dc k (by omega)
theorem Ea{upd:Nat->List aA->List aA}(Dc:∀i ms,(upd i ms).length=ms.length)(hu:∀i ms (j:Nat),j≠i->(upd i ms)[j]?=ms[j]?){ms:List aA}{j:Nat}:∀k,k<=ms.length->k<=j->(iP upd ms k)[j]?=ms[j]?
 |0,_,_=>rfl
 |k+1,hk,hj=>by
  rw[nD upd (by omega)];cases (bO ms k).runs with
  |true=>rw[cond_true,hu _ _ _ (by omega),Ea Dc hu k (by omega) (by omega)]
  |false=>exact Ea Dc hu k (by omega) (by omega)
theorem TD(K:Nat){bx yr:Nat}(upd:Nat->List aA->List aA)(Dc:∀i ms,(upd i ms).length=ms.length)(hu:∀i ms (j:Nat),j≠i->(upd i ms)[j]?=ms[j]?)(J:AH->Nat->Prop)(hJ:∀h n h' n',J h n->Up h n h' n'->J h' n')
 (w:Wk h n b v C s)(j0:J h n)(hbx:∀h n,J h n->h.get bx=some (.row 197 [.p b.g 0]))(hl:s.marks.length<=1000000)
 (hstep:∀i ms h1 n1,i<s.marks.length->ms.length=s.marks.length->bO ms i=bO s.marks i->(bO ms i).runs=true->Wk h1 n1 b v C (s.eX ms)->J h1 n1->RW (Y0 yr [.i .i64 (i:Nat)] (EF (K+1)) h1 n1) λu h2 n2=>u= .b true/\Wk h2 n2 b v C (s.eX (upd i ms))/\J h2 n2)
 (hQ:∀h' n',Wk h' n' b v C (s.eX (iP upd s.marks s.marks.length))->J h' n'->Q (.bJ []) h' n'):CW (EF (K+2)) 256 [.y yr,.p bx 0] h n Q:=by
 have hb0:=hbx h n j0;refine aC ait rfl ?_;repeat' (first|(simp (disch:=omega) only[go_sem,simprocAttr,ub.old,Ya,hb0,w.row,WB.cells,Ca (v:=.sl b.bm 0 0 s.marks.length b.cm) (m:=s.marks.length) rfl])|(simp (disch:=omega) only[go_sem,simprocAttr,Ya,hb0,w.row,WB.cells,Ca (v:=.sl b.bm 0 0 s.marks.length b.cm) (m:=s.marks.length) rfl])|(refine aS ?_ ?_<;>(intro hb hd;rw[hb];clear hb))|(with_reducible refine aj ?_))
 refine bP s.marks.length (λk h3 n3 G=>Wk h3 n3 b v C (s.eX (iP upd s.marks k))/\J h3 n3/\G=[(0,.y yr),(1,.p bx 0)]) (by omega) (by omega) (by omega) (by omega) (λk h3 n3 G ⟨_,_,e⟩=>by subst e;exact⟨rfl,rfl⟩) ⟨rfl,rfl,_,⟨w,j0,rfl⟩,by(repeat' (first|exact aO|refine aM rfl ?_))⟩ ?_ ?_
 .rintro k h3 n3 G hk ⟨w3,j3,rfl⟩
  have hb3:=hbx h3 n3 j3;have hlen:=lD Dc (ms:=s.marks) k (by omega);have hkm:k<(iP upd s.marks k).length:=by omega
  have hat:bO (iP upd s.marks k) k=bO s.marks k:=by
   have:=Ea Dc hu (ms:=s.marks) (j:=k) k (by omega) (Nat.le_refl _);unfold bO;rw[List.getD_eq_getElem?_getD,List.getD_eq_getElem?_getD,this]
  have next:∀h4 n4 (F:Fm),Wk h4 n4 b v C (s.eX (iP upd s.marks (k+1)))->J h4 n4->lk F 10=some (.i .i64 (k:Nat))->lk F 9=some (.i .i64 (s.marks.length:Nat))->lk F 0=some (.y yr)->lk F 1=some (.p bx 0)->
   (lk F 10=some (.i .i64 (k:Nat))/\lk F 9=some (.i .i64 (s.marks.length:Nat))/\∃G,(Wk h4 n4 b v C (s.eX (iP upd s.marks (k+1)))/\J h4 n4/\G=[(0,.y yr),(1,.p bx 0)])/\∀m v,lk G m=some v->lk F m=some v):=
   λh4 n4 F a1 a2 a3 a4 a5 a6=>⟨a3,a4,_,⟨a1,a2,rfl⟩,aM a5 (aM a6 aO)⟩
  have hrm:=rdm (e:=185) hkm;repeat' (first|(simp (disch:=omega) only[go_sem,simprocAttr,ub.old,hb3,w3.row,w3.ms,WB.cells,b_ hkm,hrm,hat])|(simp (disch:=omega) only[go_sem,simprocAttr,hb3,w3.row,w3.ms,WB.cells,b_ hkm,hrm,hat])|((first|rw[aR]|rw[bF]);with_reducible refine Ij _ _ λh2 n2 u2=>?_;(first|replace ub:=Up.trans ub (Up.trans aH u2)|have ub:=u2);have hle:=ub.le;clear u2)|(refine aS ?_ ?_<;>(intro hb hd;rw[hb];clear hb))|(with_reducible refine aj ?_))
  .rw[sI]
   refine RW.mono (hstep k _ _ _ hk hlen hat (by rw[hat];exact hd) (w3.up aH) (hJ _ _ _ _ j3 aH)) ?_;rintro u h4 n4 ⟨rfl,w4,j4⟩;repeat' (first|(simp (disch:=omega) only[go_sem,simprocAttr,ub.old])|(simp (disch:=omega) only[go_sem,simprocAttr])|(refine aS ?_ ?_<;>(intro hb hd;rw[hb];clear hb))|(with_reducible refine aj ?_))
   exact next _ _ _ (by rw[nD upd (by omega),hd];exact w4) j4 rfl rfl rfl rfl
  .exact next _ _ _ (by rw[nD upd (by omega),hd];exact w3.up aH) (hJ _ _ _ _ j3 aH) rfl rfl rfl rfl
 .rintro h3 n3 G ⟨w3,j3,rfl⟩
  repeat' (first|(simp (disch:=omega) only[go_sem,simprocAttr,ub.old])|(simp (disch:=omega) only[go_sem,simprocAttr])|(refine aS ?_ ?_<;>(intro hb hd;rw[hb];clear hb))|(with_reducible refine aj ?_))
  exact hQ _ _ w3 j3
theorem zm(K:Nat){g:FuncId}{r:MO}{p q:Tmp}{fT body:Code}{st:List It}{F:Fm}{R:PQ}{bx:Nat}{mb:MC}(upd:Nat->List aA->List aA)(Dc:∀i ms,(upd i ms).length=ms.length)(hu:∀i ms (j:Nat),j≠i->(upd i ms)[j]?=ms[j]?)
 (hr:ev r F []=some (.f 256 [.p bx 0]))(hb:h.get bx=some (.row 197 [.p b.g 0]))(hbn:bx<n)(hbX:¬b.X bx)(w:Wk h n b v C s)(hl:s.marks.length<=1000000)
 (hp:psK (sl0 g) [p]=some [true])(ha:zX Tryz.prog (sl0 g) fT=some (.reg [⟨none,.mv (.s p),.k q⟩]))(hm:zX Tryz.prog (sl0 g) body=some mb)
 (hstep:∀(i:Nat)(ms:List aA) h1 n1 (Qb:PQ),i<s.marks.length->ms.length=s.marks.length->bO ms i=bO s.marks i->(bO s.marks i).runs=true->Wk h1 n1 b v C (s.eX ms)->UX b.X h n h1 n1->
  (∀h2 n2 F2,Wk h2 n2 b v C (s.eX (upd i ms))->UX b.X h1 n1 h2 n2->Qb .bX h2 n2 F2)->sK Tryz.prog (yl Tryz.prog sl0 19) g 100000 [.c mb] .bX (EF (K+1)) h1 n1 (pt (pt F p (.i .i64 (i:Nat))) q (.i .i64 (i:Nat))) Qb)
 (fin:∀h2 n2,Wk h2 n2 b v C (s.eX (iP upd s.marks s.marks.length))->UX b.X h n h2 n2->sK Tryz.prog Y0 g 100000 st .bX (EF (K+2)) h2 n2 F R):SM Tryz.prog Y0 g (.c (.rng r [p] fT body)::st) .bX (EF (K+2)) h n F R:=by
 have hXn:¬b.X n:=λe=>by have:=w.lt e;omega
 have hBn:b.B<=n:=by have:=w.ge.1;have:=w.lg;omega
 refine oH hr λt hF=>?_;refine TD K upd Dc hu (λh1 n1=>UX b.X h n h1 n1/\n<n1/\h1.get n=some (.lp .ready none g t [p] fT body)) (λh1 n1 h2 n2 ⟨j1,j2,j3⟩ u=>⟨j1.trans (UX.up u),Nat.lt_of_lt_of_le j2 u.le,(u.old n j2).trans j3⟩)
  ((w.Ir hXn hBn).on (Nat.le_succ n) λ_ _=>rfl) ⟨UX.refl.set (.inr (Nat.le_refl _)) (Nat.le_succ _),Nat.lt_succ_self _,aF⟩ (λh1 n1 j=>(j.1.old bx hbn hbX).trans hb) hl ?_ ?_
 .rintro i ms h1 n1 hi hlen hat hrun w1 ⟨j1,j2,j3⟩
  refine(lV (d:=19) (F:=F) (R:=λbb h3 n3=>bb=true/\Wk h3 n3 b v C (s.eX (upd i ms))/\UX b.X h n h3 n3/\n<n3/\h3.get n=some (.lp .ready none g t [p] fT body)) j3 hF hp rfl ha hm ?_).mono ?_
  .have hrun':(bO s.marks i).runs=true:=by rw[<-hat];exact hrun
   have step:=λQb=>hstep i ms (h1.set n (.lp .busy none g t [p] fT body)) n1 Qb hi hlen hat hrun' (w1.Ir hXn hBn) (j1.set (.inr (Nat.le_refl _)) (Nat.le_refl _));have e:Nu [p] [true] [AV.i .i64 (i:Nat)] F=pt F p (.i .i64 (i:Nat)):=rfl;rw[e];have lkp:lk (pt F p (.i .i64 (i:Nat))) p=some (.i .i64 (i:Nat)):=by rw[fM,if_pos rfl]
   simp only[go_sem,lkp];refine⟨_,_,_,_,_,_,j3,step _ λh2 n2 F2 w2 u2=>?_⟩;have hl2:h2.get n=some (.lp .busy none g t [p] fT body):=(u2.old n j2 hXn).trans aF;refine⟨_,_,_,_,_,_,_,hl2,rfl,w2.Ir hXn hBn,?_,Nat.lt_of_lt_of_le j2 u2.le,aF⟩;have j1':UX b.X h n (h1.set n (.lp .busy none g t [p] fT body)) n1:=j1.set (.inr (Nat.le_refl _)) (Nat.le_refl _);exact(j1'.trans u2).set (.inr (Nat.le_refl _)) (Nat.le_refl _)
  .rintro u h2 n2 ⟨bb,rfl,rfl,h3⟩
   exact⟨rfl,h3⟩
 .rintro h2 n2 w2 ⟨j1,j2,j3⟩
  refine⟨_,_,_,_,_,_,_,j3,.inl ⟨rfl,rfl,fin _ _ (w2.Ir hXn hBn) (j1.set (.inr (Nat.le_refl _)) (Nat.le_refl _))⟩⟩
end
end
end
section
noncomputable section
theorem FU:∀{days last:Int}{l:List Int},oU days last l=true->l.Pairwise (· < ·)/\∀x∈l,last<x
 |_,_,[],_=>⟨List.Pairwise.nil,λ_ h=>by cases h⟩
 |days,last,d::l,h=>by
  simp only[oU,Bool.and_eq_true,Bool.not_eq_true',decide_eq_false_iff_not]at h;obtain⟨h1,h2⟩:=FU h.2.2;refine⟨List.pairwise_cons.2 ⟨h2,h1⟩,λx hx=>?_⟩;rcases List.mem_cons.1 hx with rfl|hx
  .omega
  .have:=h2 x hx;omega
theorem bo1{p b f:Bool}(h:p=true):(p||(b&&f))=true:=by simp[h]
theorem bo2{p b f:Bool}(h:b=true)(k:f=true):(p||(b&&f))=true:=by simp[h,k]
theorem bn1{p b f:Bool}(h:p=false)(h2:f=false):(p||(b&&f))=false:=by simp[h,h2]
theorem bn2{p b f:Bool}(h:p=false)(h2:b=false):(p||(b&&f))=false:=by simp[h,h2]
section
variable {h h':AH} {n n':Nat} {b:WB} {v:CS} {C:ay} {s:aI} {Q:AV->AH->Nat->Prop}
def MB(ms:List aA):Prop:=∀m∈ms, -1000<=m.left/\m.left<=1000/\ -1000<=m.got/\m.got<=1000
theorem MB.at_{ms:List aA}(k:MB ms){i:Nat}(h:i<ms.length): -1000<=(bO ms i).left/\(bO ms i).left<=1000/\ -1000<=(bO ms i).got/\(bO ms i).got<=1000:=k _ (List.mem_of_getElem? (gL h))
theorem TF(K:Nat)(w:Wk h n b v C s)(ok:C.Ok)(ho:C.off.length<=1000000)(hl:s.marks.length=C.clauses.length)(hh:s.ah.length=C.ah.length)(hm:MB s.marks)(hd: -1000000<=s.day/\s.day<=1000000)(hQ:∀h' n',Wk h' n' b v C (C.tick s)->UX b.X h n h' n'->Q (.bJ []) h' n'):CW (EF (K+5)) 133 [.p b.g 0] h n Q:=by
 have FQ:=ok.dJ;have g1:=w.lg;have g2:=w.lh;have g3:=w.lu;have g4:=w.lm;obtain⟨e1,e2,e3,e4,e5,e6⟩:=w.ne;have hoff:=(FU ok.off).1;refine aC c48 rfl ?_;repeat' (first|(simp (disch:=omega) only[go_sem,simprocAttr,ub.old,m48,w.row,WB.cells])|(simp (disch:=omega) only[go_sem,simprocAttr,m48,w.row,WB.cells])|((first|rw[aR]|rw[bF]);with_reducible refine L6 _ _ (w.jQ.off.up aH) hoff ho λ_ h2 n2 u2=>?_;(first|replace ub:=Up.trans ub (Up.trans aH u2)|have ub:=u2);have hle:=ub.le;clear u2)|(refine aS ?_ ?_<;>(intro hb hd;rw[hb];clear hb))|(with_reducible refine aj ?_))
 rw[aR];refine vR _ λbx h3 n3 u3 hbx hb1 hb2=>?_;have w3:Wk h3 n3 b v C s:=w.up aH;have f1:h3.get n=some (.row 197 [.p b.g 0]):=by rw[u3.old n (by omega)];simp (disch:=omega) only[go_sem,ub.old]
 have f2:h3.get (n+1)=some (.row 362 [.k 3,.f 204 [],.f 205 [],.f 206 [],.f 206 []]):=by rw[u3.old _ (by omega)];simp (disch:=omega) only[go_sem,ub.old]
 have f3:h3.get (n+1+1)=some (.row 4 [.b (C.off.contains s.day)]):=by rw[u3.old _ (by omega)];simp (disch:=omega) only[go_sem,ub.old]
 have zn:UX b.X h n h3 n3:=UX.up aH;have hle3:=u3.le;have hn3:n+1+1<n3:=by omega
 have aqp:n<=bx:=by omega
 clear u3 ub hle hle3 hb1;repeat' (first|(simp (disch:=omega) only[go_sem,simprocAttr,ub.old])|(simp (disch:=omega) only[go_sem,simprocAttr])|(refine aS ?_ ?_<;>(intro hb hd;rw[hb];clear hb))|(with_reducible refine aj ?_))
 refine zm _ (iC C (C.off.contains s.day)) (vH C _) (qA C _) rfl hbx hb2 (λe=>by have:=w.lt e;omega) w3 (by omega) (by kernel_rfl) Yc Yd ?_ ?_
 .intro i ms h4 n4 Qb hi hlen hat hrun w4 u4 hQb
  have m1:=(u4.old n (by omega) (λe=>by have:=w.lt e;omega)).trans f1;have m2:=(u4.old (n+1) (by omega) (λe=>by have:=w.lt e;omega)).trans f2;have m3:=(u4.old (n+1+1) (by omega) (λe=>by have:=w.lt e;omega)).trans f3;have hi2:i<ms.length:=by omega
  obtain⟨cb,co,k,t,i1,i2,i3,i4,rd⟩:=w4.jQ.VF (i:=i) (by omega);have zl:=ok.clause i2;have hmb:=hm.at_ hi;rw[<-hat]at hmb;have l1:=w4.lg;have l2:=w4.lh;have l3:=w4.lu;have l4:=w4.lm;have l5:=u4.le;have wid:gN .i64 ((bO ms i).left - 1)=(bO ms i).left - 1:=dI (by omega) (by omega);have tk:iC C (C.off.contains s.day) i ms=cond ((bO ms i).paused||(k.iA&&C.off.contains s.day)) ms (ms.set i ((bO ms i).yS k)):=by
   unfold iC;rw[i2,gL hi2]
  rw[tk]at hQb;have blk:((bO ms i).paused||(k.iA&&C.off.contains s.day))=true->∀h2 n2 F2,Wk h2 n2 b v C (s.eX ms)->UX b.X h4 n4 h2 n2->Qb .bX h2 n2 F2:=λe=>by rw[e]at hQb;exact hQb
  have nob:((bO ms i).paused||(k.iA&&C.off.contains s.day))=false->∀h2 n2 F2,Wk h2 n2 b v C (s.eX (ms.set i ((bO ms i).yS k)))->UX b.X h4 n4 h2 n2->Qb .bX h2 n2 F2:=λe=>by rw[e]at hQb;exact hQb
  clear hQb tk;have ag:¬(bO ms i).left - 1=0->(bO ms i).yS k=⟨(bO ms i).status,(bO ms i).left - 1,(bO ms i).got,(bO ms i).aT,(bO ms i).paused⟩:=λe=>by
   unfold aA.yS;rw[show((bO ms i).left - 1==0)=false by simpa using e];rfl
  have ag0:(bO ms i).left - 1=0->(bO ms i).yS k=aA.due ⟨(bO ms i).status,(bO ms i).left - 1,(bO ms i).got,(bO ms i).aT,(bO ms i).paused⟩ k:=λe=>by
   unfold aA.yS;rw[show((bO ms i).left - 1==0)=true by simpa using e];rfl
  repeat' (first|(simp (disch:=omega) only[go_sem,simprocAttr,ub.old,Io,m1,m2,m3,w4.row,w4.ms,WB.cells,aJ i1,b_ hi2,cK hi2,rd.el,rd.hd,rd.all,aG.av,Yl hi2,ab1 hi2,ab4 hi2,VB hi2,wid])|(simp (disch:=omega) only[go_sem,simprocAttr,Io,m1,m2,m3,w4.row,w4.ms,WB.cells,aJ i1,b_ hi2,cK hi2,rd.el,rd.hd,rd.all,aG.av,Yl hi2,ab1 hi2,ab4 hi2,VB hi2,wid])|(refine aS ?_ ?_<;>(intro hb hd;rw[hb];clear hb))|(with_reducible refine aj ?_))
  all_goals first
   |(refine blk (bo1 ?_) _ _ _ (w4.up ?_) (UX.up ?_)<;>first|assumption|(exact aH;done))
   |(refine blk (bo2 ?_ ?_) _ _ _ (w4.up ?_) (UX.up ?_)<;>first|assumption|(exact aH;done))
   |(have nb:=nob (bn1 ‹_› ‹_›))
   |(have nb:=nob (bn2 ‹_› ‹_›))
  all_goals clear blk nob
  all_goals try
   rw[ag hd]at nb;refine nb _ _ _ ((w4.up ?_).sP (ms:=ms.set i _) ?_) ((UX.up ?_).set (.inl b.xm) (Nat.le_refl _))<;>first|(exact aH;done)|(simp;done)
  all_goals
   rw[ag0 hd]at nb;clear ag ag0;have hk4:k.kind=1\/k.kind=2\/k.kind=3\/k.kind=4:=by have:=zl.Vv;have:=zl.Vw;omega
   have hi5:i<(ms.set i ⟨(bO ms i).status,(bO ms i).left - 1,(bO ms i).got,(bO ms i).aT,(bO ms i).paused⟩:List aA).length:=by simpa using hi2
   generalize Px:Tr.set (Tr.set (Tr.set h4 n4 _) n4 _) b.bm _=h6;have w6:Wk h6 (n4+1) b v C (s.eX (ms.set i ⟨(bO ms i).status,(bO ms i).left - 1,(bO ms i).got,(bO ms i).aT,(bO ms i).paused⟩)):=by
    rw[<-Px];refine(w4.up ?_).sP (ms:=ms.set i _) ?_<;>first|(exact aH;done)|(simp;done)
   have u6:UX b.X h4 n4 h6 (n4+1):=by rw[<-Px];exact(UX.up aH).set (.inl b.xm) (Nat.le_refl _)
   have p2:h6.get (n+1)=some (.row 362 [.k 3,.f 204 [],.f 205 [],.f 206 [],.f 206 []]):=by rw[<-Px];simp (disch:=omega) only[go_sem,m2]
   have p1:h6.get n=some (.row 197 [.p b.g 0]):=by rw[<-Px];simp (disch:=omega) only[go_sem,m1]
   clear Px;rcases hk4 with e|e|e|e
   .simp (disch:=omega) only[go_sem,simprocAttr,e,p1,p2]
    rw[bF];refine LY _ w6 hi5 i2 λh7 n7 w7 u7=>?_;repeat' (first|(simp (disch:=omega) only[go_sem,simprocAttr,ub.old])|(simp (disch:=omega) only[go_sem,simprocAttr])|(refine aS ?_ ?_<;>(intro hb hd;rw[hb];clear hb))|(with_reducible refine aj ?_))
    refine nb _ _ _ ?_ (u6.trans u7);rw[vP hi2]at w7;simpa [aA.due,e]using w7
   .simp (disch:=omega) only[go_sem,simprocAttr,e,p1,p2]
    rw[bF];refine D_ _ w6 hi5 λh7 n7 w7 u7=>?_;repeat' (first|(simp (disch:=omega) only[go_sem,simprocAttr,ub.old])|(simp (disch:=omega) only[go_sem,simprocAttr])|(refine aS ?_ ?_<;>(intro hb hd;rw[hb];clear hb))|(with_reducible refine aj ?_))
    refine nb _ _ _ ?_ (u6.trans u7);rw[vP hi2]at w7;simpa [aA.due,e]using w7
   .simp (disch:=omega) only[go_sem,simprocAttr,e,p1,p2]
    rw[bF];refine FP _ w6 hi5 λh7 n7 w7 u7=>?_;repeat' (first|(simp (disch:=omega) only[go_sem,simprocAttr,ub.old])|(simp (disch:=omega) only[go_sem,simprocAttr])|(refine aS ?_ ?_<;>(intro hb hd;rw[hb];clear hb))|(with_reducible refine aj ?_))
    refine nb _ _ _ ?_ (u6.trans u7);rw[vP hi2]at w7;simpa [aA.due,e]using w7
   .simp (disch:=omega) only[go_sem,simprocAttr,e,p1,p2]
    rw[bF];refine FP _ w6 hi5 λh7 n7 w7 u7=>?_;repeat' (first|(simp (disch:=omega) only[go_sem,simprocAttr,ub.old])|(simp (disch:=omega) only[go_sem,simprocAttr])|(refine aS ?_ ?_<;>(intro hb hd;rw[hb];clear hb))|(with_reducible refine aj ?_))
    refine nb _ _ _ ?_ (u6.trans u7);rw[vP hi2]at w7;simpa [aA.due,e]using w7
 .intro h4 n4 w4 u4
  have m1:=(u4.old n (by omega) (λe=>by have:=w.lt e;omega)).trans f1;have wd:gN .i64 (s.day+1)=s.day+1:=dI (by omega) (by omega);repeat' (first|(simp (disch:=omega) only[go_sem,simprocAttr,ub.old,m1,w4.row,WB.cells,wd])|(simp (disch:=omega) only[go_sem,simprocAttr,m1,w4.row,WB.cells,wd])|(refine aS ?_ ?_<;>(intro hb hd;rw[hb];clear hb))|(with_reducible refine aj ?_))
  rw[aR];refine vQ _ (w4.aiG (d:=s.day+1)) ok ?_ hh λh5 n5 w5 u5=>?_
  .show(iP (iC C (C.off.contains s.day)) s.marks s.marks.length).length=_
   rw[lD (vH C _) _ (Nat.le_refl _),hl]
  repeat' (first|(simp (disch:=omega) only[go_sem,simprocAttr,ub.old])|(simp (disch:=omega) only[go_sem,simprocAttr])|(refine aS ?_ ?_<;>(intro hb hd;rw[hb];clear hb))|(with_reducible refine aj ?_))
  exact hQ _ _ w5 (zn.trans ((u4.set (.inl (.inl rfl)) (Nat.le_refl _)).trans u5))
end
end
end
section
noncomputable section
section
variable {h h':AH} {n n':Nat} {b:WB} {v:CS} {C:ay} {s:aI} {Q:AV->AH->Nat->Prop}
theorem sth{e:Nat}{hs:List Int}{j:Nat}(h:j<hs.length)(x:Int):fQ (some (.row e (hs.flatMap ci))) (j*1) (some [.i .i64 x])=some (.row e ((hs.set j x).flatMap ci)):=rP (c:=ci) (w:=1) (λ_=>rfl) h
theorem stb{e:Nat}{hs:List Bool}{j:Nat}(h:j<hs.length)(x:Bool):fQ (some (.row e (hs.flatMap cb))) (j*1) (some [.b x])=some (.row e ((hs.set j x).flatMap cb)):=rP (c:=cb) (w:=1) (λ_=>rfl) h
theorem rdb{e:Nat}{hs:List Bool}{j:Nat}(h:j<hs.length):pG (some (.row e (hs.flatMap cb))) (j*1) none=some (.b (hs.getD j false)):=by
 have h1:hs[j]?=some (hs.getD j false):=by rw[List.getD_eq_getElem?_getD,List.getElem?_eq_getElem h];rfl
 exact vO (c:=cb) (w:=1) (e:=e) (λ_=>rfl) h1 (j:=0) (by omega)
theorem Py(K:Nat)(w:Wk h n b v C s)(ok:C.Ok)(hl:s.marks.length=C.clauses.length)(hh:s.ah.length=C.ah.length)(hu:s.used.length=C.acts.length){i:Nat}{a:dM}(ha:C.acts[i]?=some a)(hk:a.kind≠1)
 (hQ:∀h' n',Wk h' n' b v C (C.shift i a s)->UX b.X h n h' n'->Q (.bJ []) h' n'):CW (EF (K+3)) 212 [.p b.g 0,.i .i64 (i:Nat)] h n Q:=by
 have FQ:=ok.dJ;have aok:=ok.act (List.mem_of_getElem? ha);have hil:=(List.getElem?_eq_some_iff.1 ha).1;obtain⟨e1,e2,e3,e4,e5,e6⟩:=w.ne;have g1:=w.lg;have g2:=w.lh;have g3:=w.lu;have g4:=w.lm;obtain⟨j,hj,hj2⟩:∃j:Nat,a.give=j/\j<s.ah.length:=by
  have:=aok.give hk;exact⟨a.give.toNat,by omega,by omega⟩
 have hiu:i<s.used.length:=by omega
 obtain⟨b0,o0,a',i0,ha',hb0,rd⟩:=w.jQ.acts.dL (k:=(i:Nat)) (by omega) (by omega) (by omega);rw[show((i:Nat):Int).toNat=i by omega,ha]at ha';cases ha'
 have fin:∀(ms:List aA) h4 n4,(cond (a.kind !=3) s.marks (iP (dY C a.give a.tgt) s.marks s.marks.length))=ms->Wk h4 n4 b v C ⟨s.day,s.ah.set j a.tgt,s.used.set i true,ms⟩->UX b.X h n h4 n4->Q (.bJ []) h4 n4:=λms h4 n4 e w4 u4=>by
  refine hQ _ _ ?_ u4;have:C.shift i a s=⟨s.day,s.ah.set j a.tgt,s.used.set i true,ms⟩:=by
   unfold ay.shift;rw[hj,show((j:Nat):Int).toNat=j by omega,<-hj];congr 1
  rw[this];exact w4
 refine aC aix rfl ?_;repeat' (first|(simp (disch:=omega) only[go_sem,simprocAttr,abX,w.row,w.hs,w.us,WB.cells,aJ i0,cK hj2,b_ hiu,sth hj2,stb hiu,rd.el,rd.hd,rd.all,dM.av,hj])|(refine aS ?_ ?_<;>(intro hb hd;rw[hb];clear hb))|(with_reducible refine aj ?_))
 .refine fin s.marks _ _ (by rw[show(a.kind !=3)=true by simpa using hd];rfl) (((w.up ?_).setH (hs:=s.ah.set j a.tgt) ?_).ab8 (us:=s.used.set i true) ?_) (((UX.up ?_).set (.inl (.inr (.inl rfl))) (Nat.le_refl _)).set (.inl (.inr (.inr (.inl rfl)))) (Nat.le_refl _))<;>first|(exact aH;done)|(simp;done)
 .generalize Px:Tr.set (Tr.set (Tr.set (Tr.set (Tr.set h n _) (n+1) _) (n+1) _) b.bh _) b.bu _=h6
  have w6:Wk h6 (n+2) b v C ⟨s.day,s.ah.set j a.tgt,s.used.set i true,s.marks⟩:=by
   rw[<-Px];refine((w.up ?_).setH (hs:=s.ah.set j a.tgt) ?_).ab8 (us:=s.used.set i true) ?_<;>first|(exact aH;done)|(simp;done)
  have u6:UX b.X h n h6 (n+2):=by rw[<-Px];exact((UX.up aH).set (.inl (.inr (.inl rfl))) (Nat.le_refl _)).set (.inl (.inr (.inr (.inl rfl)))) (Nat.le_refl _)
  have p1:h6.get n=some (.row 197 [.p b.g 0]):=by rw[<-Px];simp (disch:=omega) only[go_sem]
  have p2:h6.get (n+1)=some (.row 161 [.i .i64 a.kind,.i .i64 a.role,.i .i64 (j:Nat),.i .i64 a.tgt,.i .i64 a.unit,.i .i64 a.lot.num,.i .i64 a.lot.den]):=by rw[<-Px];simp (disch:=omega) only[go_sem]
  clear Px;rw[aR];refine vR _ λbx h3 n3 u3 hbx hb1 hb2=>?_;have w3:=w6.up u3;have f1:=(u3.old n (by omega)).trans p1;have f2:=(u3.old (n+1) (by omega)).trans p2;have zn:UX b.X h n h3 n3:=u6.trans (UX.up u3);have hn3:n+1+1<n3:=by omega
  clear u3 u6 p1 p2;repeat' (first|(simp (disch:=omega) only[go_sem,simprocAttr])|(refine aS ?_ ?_<;>(intro hb hd;rw[hb];clear hb))|(with_reducible refine aj ?_))
  refine zm _ (dY C a.give a.tgt) (jB C _ _) (oV C _ _) rfl hbx hb2 (λe=>by have:=w.lt e;omega) w3 (by show s.marks.length<=_;omega) (by kernel_rfl) Tv Tw ?_ ?_
  .intro q ms h4 n4 Qb hi hlen hat hrun w4 u4 hQb
   have hi:q<s.marks.length:=hi;have hlen:ms.length=s.marks.length:=hlen;have m1:=(u4.old n (by omega) (λe=>by have:=w.lt e;omega)).trans f1;have m2:=(u4.old (n+1) (by omega) (λe=>by have:=w.lt e;omega)).trans f2;have hi2:q<ms.length:=by omega
   obtain⟨cb,co,k,t,i1,i2,i3,i4,eP⟩:=w4.jQ.VF (i:=q) (by omega);have l1:=w4.lg;have l2:=w4.lh;have l3:=w4.lu;have l4:=w4.lm;have l5:=u4.le;have tk:dY C a.give a.tgt q ms=cond ((k.kind !=4)&&(k.role==a.give)) (ms.set q ⟨(bO ms q).status,(bO ms q).left,(bO ms q).got,a.tgt,(bO ms q).paused⟩) ms:=by
    unfold dY;rw[i2,gL hi2]
   rw[tk]at hQb;repeat' (first|(simp (disch:=omega) only[go_sem,simprocAttr,Kz,m1,m2,w4.row,w4.ms,WB.cells,aJ i1,cK hi2,eP.el,eP.hd,eP.all,aG.av,aiE hi2])|(refine aS ?_ ?_<;>(intro hb hd;rw[hb];clear hb))|(with_reducible refine aj ?_))
   .rename_i h1
    rw[show((k.kind !=4)&&(k.role==a.give))=true by simp;omega]at hQb;refine hQb _ _ _ ((w4.up ?_).sP (ms:=ms.set q _) ?_) ((UX.up ?_).set (.inl b.xm) (Nat.le_refl _))<;>first|(exact aH;done)|(simp;done)
   all_goals
    rw[show((k.kind !=4)&&(k.role==a.give))=false by simp;omega]at hQb;exact hQb _ _ _ (w4.up aH) (UX.up aH)
  .intro h4 n4 w4 u4
   repeat' (first|(simp (disch:=omega) only[go_sem,simprocAttr])|(refine aS ?_ ?_<;>(intro hb hd;rw[hb];clear hb))|(with_reducible refine aj ?_))
   exact fin _ _ _ (by rw[show(a.kind !=3)=false by simpa using hd];rfl) w4 (zn.trans u4)
end
end
end
section
noncomputable section
section
variable {h h':AH} {n n':Nat} {b:WB} {v:CS} {C:ay} {s:aI} {Q:AV->AH->Nat->Prop}
theorem Eb{upd:Nat->List aA->List aA}(hu:∀i ms,MB ms->MB (upd i ms)){ms:List aA}(hm:MB ms):∀k,k<=ms.length->MB (iP upd ms k)
 |0,_=>hm
 |k+1,hk=>by
  rw[nD upd (by omega)];cases (bO ms k).runs with
  |true=>exact hu _ _ (Eb hu hm k (by omega))
  |false=>exact Eb hu hm k (by omega)
theorem MB.set{ms:List aA}(hm:MB ms){i:Nat}{m:aA}(h: -1000<=m.left/\m.left<=1000/\ -1000<=m.got/\m.got<=1000):MB (ms.set i m):=λx hx=>by
 rcases List.mem_or_eq_of_mem_set hx with hx|rfl
 .exact hm x hx
 .exact h
theorem Ec(C:ay)(act:Int)(i:Nat)(ms:List aA)(hm:MB ms):MB (d9 C act i ms):=by
 unfold d9;split
 .rename_i k m h1 h2
  have:=hm m (List.mem_of_getElem? h2);cases (act==k.pause)with
  |true=>exact hm.set this
  |false=>
   cases (act==k.resume)with
   |true=>exact hm.set this
   |false=>exact hm
 .exact hm
theorem Pz(K:Nat)(w:Wk h n b v C s)(ok:C.Ok)(hl:s.marks.length=C.clauses.length)(hh:s.ah.length=C.ah.length)(hu:s.used.length=C.acts.length)(hm:MB s.marks){i:Nat}{a:dM}(ha:C.acts[i]?=some a)
 (hQ:∀h' n',Wk h' n' b v C (C.act i a s)->UX b.X h n h' n'->Q (.bJ []) h' n'):CW (EF (K+4)) 134 [.p b.g 0,.i .i64 (i:Nat)] h n Q:=by
 have FQ:=ok.dJ;have aok:=ok.act (List.mem_of_getElem? ha);have hil:=(List.getElem?_eq_some_iff.1 ha).1;have hiu:i<s.used.length:=by omega
 obtain⟨e1,e2,e3,e4,e5,e6⟩:=w.ne;have g1:=w.lg;have g2:=w.lh;have g3:=w.lu;have g4:=w.lm;obtain⟨b0,o0,a',i0,ha',hb0,rd⟩:=w.jQ.acts.dL (k:=(i:Nat)) (by omega) (by omega) (by omega);rw[show((i:Nat):Int).toNat=i by omega,ha]at ha';cases ha'
 refine aC c49 rfl ?_;have early:((a.kind !=1)&&s.used.getD i false)=true->C.act i a s=s:=λe=>by unfold ay.act;rw[e];rfl
 repeat' (first|(simp (disch:=omega) only[go_sem,simprocAttr,ub.old,m49,w.row,w.us,WB.cells,i0,cK hiu,rdb hiu,rd.el,rd.hd,rd.all,dM.av])|(simp (disch:=omega) only[go_sem,simprocAttr,m49,w.row,w.us,WB.cells,i0,cK hiu,rdb hiu,rd.el,rd.hd,rd.all,dM.av])|(refine aS ?_ ?_<;>(intro hb hd;rw[hb];clear hb))|(with_reducible refine aj ?_))
 .refine hQ _ _ ?_ (UX.up aH)
  rw[early (by rename_i q;simp only[Bool.and_eq_true];exact⟨by simpa using q,hd⟩)];exact w.up aH
 all_goals
  have hne:((a.kind !=1)&&s.used.getD i false)=false:=by
   first
    |(rw[hd,Bool.and_false];done)
    |(rw[show(a.kind !=1)=false by simpa using hd,Bool.false_and];done)
  clear early;rw[aR];refine vR _ λbx h3 n3 u3 hbx hb1 hb2=>?_;have w3:=w.up (n':=n3) (h':=h3) aH;have f1:h3.get n=some (.row 197 [.p b.g 0]):=by rw[u3.old n (by omega)];simp (disch:=omega) only[go_sem]
  have f2:h3.get (n+1)=some (.row 3 [.i .i64 (i:Nat)]):=by rw[u3.old _ (by omega)];simp (disch:=omega) only[go_sem]
  have f3:h3.get (n+1+1)=some (.row 161 a.av):=by rw[u3.old _ (by omega)];simp (disch:=omega) only[go_sem]
  have zn:UX b.X h n h3 n3:=UX.up aH;have hn3:n+1+1<n3:=by omega
  clear u3 hd;repeat' (first|(simp (disch:=omega) only[go_sem,simprocAttr,ub.old])|(simp (disch:=omega) only[go_sem,simprocAttr])|(refine aS ?_ ?_<;>(intro hb hd;rw[hb];clear hb))|(with_reducible refine aj ?_))
  refine zm _ (d9 C (i:Nat)) (tK C _) (oW C _) rfl hbx hb2 (λe=>by have:=w.lt e;omega) w3 (by omega) (by kernel_rfl) Yf Yg ?_ ?_
  .intro q ms h4 n4 Qb hi hlen hat hrun w4 u4 hQb
   have m1:=(u4.old n (by omega) (λe=>by have:=w.lt e;omega)).trans f1;have m2:=(u4.old (n+1) (by omega) (λe=>by have:=w.lt e;omega)).trans f2;have hi2:q<ms.length:=by omega
   obtain⟨cb,co,k,t,i1,i2,i3,i4,eP⟩:=w4.jQ.VF (i:=q) (by omega);have l1:=w4.lg;have l2:=w4.lh;have l3:=w4.lu;have l4:=w4.lm;have l5:=u4.le;have tk:d9 C (i:Nat) q ms=cond ((i:Int)==k.pause) (ms.set q ⟨(bO ms q).status,(bO ms q).left,(bO ms q).got,(bO ms q).aT,true⟩) (cond ((i:Int)==k.resume) (ms.set q ⟨(bO ms q).status,(bO ms q).left,(bO ms q).got,(bO ms q).aT,false⟩) ms):=by
    unfold d9;rw[i2,gL hi2]
   rw[tk]at hQb;repeat' (first|(simp (disch:=omega) only[go_sem,simprocAttr,ub.old,Ip,m1,m2,w4.row,w4.ms,WB.cells,aJ i1,b_ hi2,eP.el,eP.hd,eP.all,aG.av,ab5 hi2])|(simp (disch:=omega) only[go_sem,simprocAttr,Ip,m1,m2,w4.row,w4.ms,WB.cells,aJ i1,b_ hi2,eP.el,eP.hd,eP.all,aG.av,ab5 hi2])|(refine aS ?_ ?_<;>(intro hb hd;rw[hb];clear hb))|(with_reducible refine aj ?_))
   .rw[show((i:Int)==k.pause)=true by simpa using hd]at hQb
    refine hQb _ _ _ (w4.sP (ms:=ms.set q _) ?_) (UX.refl.set (.inl b.xm) (Nat.le_refl _));simp
   .rename_i h1
    rw[show((i:Int)==k.pause)=false by simpa using h1,show((i:Int)==k.resume)=true by simpa using hd]at hQb;refine hQb _ _ _ (w4.sP (ms:=ms.set q _) ?_) (UX.refl.set (.inl b.xm) (Nat.le_refl _));simp
   .rename_i h1
    rw[show((i:Int)==k.pause)=false by simpa using h1,show((i:Int)==k.resume)=false by simpa using hd]at hQb;exact hQb _ _ _ w4 UX.refl
  .intro h4 n4 w4 u4
   have m1:=(u4.old n (by omega) (λe=>by have:=w.lt e;omega)).trans f1;have m2:=(u4.old (n+1) (by omega) (λe=>by have:=w.lt e;omega)).trans f2;have m3:=(u4.old (n+1+1) (by omega) (λe=>by have:=w.lt e;omega)).trans f3;have l1:=w4.lg;have l2:=w4.lh;have l3:=w4.lu;have l4:=w4.lm;have l5:=u4.le;have len1:(iP (d9 C (i:Nat)) s.marks s.marks.length).length=s.marks.length:=lD (tK C _) _ (Nat.le_refl _);have mb1:MB (iP (d9 C (i:Nat)) s.marks s.marks.length):=Eb (Ec C _) hm _ (Nat.le_refl _);have ZY:=zn.trans u4;have hpm:C.paused (i:Nat) s.marks=iP (d9 C (i:Nat)) s.marks s.marks.length:=rfl;generalize hpa:iP (d9 C (i:Nat)) s.marks s.marks.length=pm at*;clear zn f1 f2 f3 u4;repeat' (first|(simp (disch:=omega) only[go_sem,simprocAttr,ub.old,m1,m2,m3,w4.row,WB.cells,dM.av])|(simp (disch:=omega) only[go_sem,simprocAttr,m1,m2,m3,w4.row,WB.cells,dM.av])|((first|rw[aR]|rw[bF]);with_reducible refine Kw _ (w4.jQ.up aH) (w4.st.up aH) (i:=(i:Nat)) (by omega) (by rw[show((i:Nat):Int).toNat=i by omega];exact ha) (λe=>by rw[show(s.eX pm).ah=s.ah from rfl,hh];exact aok.role e) λh2 n2 u2=>?_;(first|replace ub:=Up.trans ub (Up.trans aH u2)|have ub:=u2);have hle:=ub.le;clear u2)|(refine aS ?_ ?_<;>(intro hb hd;rw[hb];clear hb))|(with_reducible refine aj ?_))
   rw[aR];refine vR _ λby' h5 n5 u5 hby hb3 hb4=>?_;have w5:=w4.up (n':=n5) (h':=h5) aH;have f1:h5.get n=some (.row 197 [.p b.g 0]):=by rw[u5.old n (by omega)];simp (disch:=omega) only[go_sem,ub.old,m1]
   have f2:h5.get (n+1)=some (.row 3 [.i .i64 (i:Nat)]):=by rw[u5.old _ (by omega)];simp (disch:=omega) only[go_sem,ub.old,m2]
   have f3:h5.get (n+1+1)=some (.row 161 a.av):=by rw[u5.old _ (by omega)];simp (disch:=omega) only[go_sem,ub.old,m3]
   have f4:h5.get n4=some (.row 362 [.k 3,.f 209 [],.f 210 [],.f 205 [],.f 205 []]):=by rw[u5.old _ (by omega)];simp (disch:=omega) only[go_sem,ub.old]
   have f5:h5.get (n4+1)=some (.row 3 [.i .i64 (bC s.ah a)]):=by rw[u5.old _ (by omega)];simp (disch:=omega) only[go_sem,ub.old]
   have PE:UX b.X h n h5 n5:=ZY.trans (UX.up aH);have hn5:n4+1<n5:=by omega
   have aqu:n<=by':=by omega
   clear u5 ZY ub hle m1 m2 m3;repeat' (first|(simp (disch:=omega) only[go_sem,simprocAttr,ub.old])|(simp (disch:=omega) only[go_sem,simprocAttr])|(refine aS ?_ ?_<;>(intro hb hd;rw[hb];clear hb))|(with_reducible refine aj ?_))
   refine zm _ (eO C (i:Nat) (bC s.ah a)) (yh C _ _) (tL C _ _) rfl hby hb4 (λe=>by have:=w.lt e;omega) w5 (by show pm.length<=_;omega) (by kernel_rfl) Yi Yj ?_ ?_
   .intro q ms h6 n6 Qb hi hlen hat hrun w6 u6 hQb
    have hi:q<pm.length:=hi;have hlen:ms.length=pm.length:=hlen;have m1:=(u6.old n (by omega) (λe=>by have:=w.lt e;omega)).trans f1;have m2:=(u6.old (n+1) (by omega) (λe=>by have:=w.lt e;omega)).trans f2;have m4:=(u6.old n4 (by omega) (λe=>by have:=w4.lt e;omega)).trans f4;have m5:=(u6.old (n4+1) (by omega) (λe=>by have:=w4.lt e;omega)).trans f5;have hi2:q<ms.length:=by omega
    obtain⟨cb,co,k,t,i1,i2,i3,i4,eP⟩:=w6.jQ.VF (i:=q) (by omega);have zl:=ok.clause i2;have hmb:=mb1.at_ hi;rw[show bO pm q=bO ms q from hat.symm]at hmb;have l1:=w6.lg;have l2:=w6.lh;have l3:=w6.lu;have l4:=w6.lm;have l5:=u6.le;have tk:eO C (i:Nat) (bC s.ah a) q ms=cond ((k.act==(i:Int))&&((k.kind==4)||((bO ms q).aT==bC s.ah a))) (ms.set q ((bO ms q).hit k)) ms:=by
     unfold eO;rw[i2,gL hi2]
    rw[tk]at hQb;have hk4:k.kind=1\/k.kind=2\/k.kind=3\/k.kind=4:=by have:=zl.Vv;have:=zl.Vw;omega
    have no:((k.act==(i:Int))&&((k.kind==4)||((bO ms q).aT==bC s.ah a)))=false->∀h2 n2 F2,Wk h2 n2 b v C ((s.eX pm).eX ms)->UX b.X h6 n6 h2 n2->Qb .bX h2 n2 F2:=λe=>by rw[e]at hQb;exact hQb
    have ye:((k.act==(i:Int))&&((k.kind==4)||((bO ms q).aT==bC s.ah a)))=true->∀h2 n2 F2,Wk h2 n2 b v C ((s.eX pm).eX (ms.set q ((bO ms q).hit k)))->UX b.X h6 n6 h2 n2->Qb .bX h2 n2 F2:=λe=>by rw[e]at hQb;exact hQb
    clear hQb tk;have yt:k.act=(i:Int)->(k.kind=4\/(bO ms q).aT=bC s.ah a)->((k.act==(i:Int))&&((k.kind==4)||((bO ms q).aT==bC s.ah a)))=true:=λh1 h2=>by simp[h1,h2]
    have nt1:¬k.act=(i:Int)->((k.act==(i:Int))&&((k.kind==4)||((bO ms q).aT==bC s.ah a)))=false:=λh1=>by simp[h1]
    have nt2:¬k.kind=4->¬(bO ms q).aT=bC s.ah a->((k.act==(i:Int))&&((k.kind==4)||((bO ms q).aT==bC s.ah a)))=false:=λh1 h2=>by simp[h1,h2]
    rcases hk4 with e|e|e|e
    all_goals
     repeat' (first|(simp (disch:=omega) only[go_sem,simprocAttr,ub.old,Iq,m1,m2,m4,m5,w6.row,w6.ms,WB.cells,aJ i1,cK hi2,b_ hi2,eP.el,eP.hd,eP.all,aG.av,ab2 hi2,e,Int.reduceEq])|(simp (disch:=omega) only[go_sem,simprocAttr,Iq,m1,m2,m4,m5,w6.row,w6.ms,WB.cells,aJ i1,cK hi2,b_ hi2,eP.el,eP.hd,eP.all,aG.av,ab2 hi2,e,Int.reduceEq])|(refine aS ?_ ?_<;>(intro hb hd;rw[hb];clear hb))|(with_reducible refine aj ?_))
    all_goals first
     |(refine no (nt1 hd) _ _ _ (w6.up ?_) (UX.up ?_)<;>(exact aH;done))
     |(refine no (nt2 (by omega) hd) _ _ _ (w6.up ?_) (UX.up ?_)<;>(exact aH;done))
     |skip
    all_goals rw[bF]
    .refine Iw _ (w6.up aH) hi2 (show(bO ms q).got<=1000000 by omega) (show -1000000<=(bO ms q).got by omega) i2 λh7 n7 w7 u7=>?_
     repeat' (first|(simp (disch:=omega) only[go_sem,simprocAttr,ub.old])|(simp (disch:=omega) only[go_sem,simprocAttr])|(refine aS ?_ ?_<;>(intro hb hd;rw[hb];clear hb))|(with_reducible refine aj ?_))
     refine ye (yt ‹_› (.inr hd)) _ _ _ ?_ ((UX.up aH).trans u7);simpa [aA.hit,e]using w7
    .refine Iu _ (w6.up aH) hi2 λh7 n7 w7 u7=>?_
     repeat' (first|(simp (disch:=omega) only[go_sem,simprocAttr,ub.old])|(simp (disch:=omega) only[go_sem,simprocAttr])|(refine aS ?_ ?_<;>(intro hb hd;rw[hb];clear hb))|(with_reducible refine aj ?_))
     refine ye (yt ‹_› (.inr hd)) _ _ _ ?_ ((UX.up aH).trans u7);simpa [aA.hit,e]using w7
    .refine D_ _ (w6.up aH) hi2 λh7 n7 w7 u7=>?_
     repeat' (first|(simp (disch:=omega) only[go_sem,simprocAttr,ub.old])|(simp (disch:=omega) only[go_sem,simprocAttr])|(refine aS ?_ ?_<;>(intro hb hd;rw[hb];clear hb))|(with_reducible refine aj ?_))
     refine ye (yt ‹_› (.inr hd)) _ _ _ ?_ ((UX.up aH).trans u7);simpa [aA.hit,e]using w7
    .refine D_ _ (w6.up aH) hi2 λh7 n7 w7 u7=>?_
     repeat' (first|(simp (disch:=omega) only[go_sem,simprocAttr,ub.old])|(simp (disch:=omega) only[go_sem,simprocAttr])|(refine aS ?_ ?_<;>(intro hb hd;rw[hb];clear hb))|(with_reducible refine aj ?_))
     refine ye (yt hd (.inl e)) _ _ _ ?_ ((UX.up aH).trans u7);simpa [aA.hit,e]using w7
   .intro h6 n6 w6 u6
    have m1:=(u6.old n (by omega) (λe=>by have:=w.lt e;omega)).trans f1;have m2:=(u6.old (n+1) (by omega) (λe=>by have:=w.lt e;omega)).trans f2;have m3:=(u6.old (n+1+1) (by omega) (λe=>by have:=w.lt e;omega)).trans f3;have l1:=w6.lg;have l2:=w6.lh;have l3:=w6.lu;have l4:=w6.lm;have l5:=u6.le;have len2:(iP (eO C (i:Nat) (bC s.ah a)) pm pm.length).length=pm.length:=lD (yh C _ _) _ (Nat.le_refl _);have hac:C.oZ (i:Nat) (bC s.ah a) pm=iP (eO C (i:Nat) (bC s.ah a)) pm pm.length:=rfl;have fin:∀s2:aI,cond (a.kind !=1) (C.shift i a ((s.eX pm).eX (iP (eO C (i:Nat) (bC s.ah a)) pm pm.length))) ((s.eX pm).eX (iP (eO C (i:Nat) (bC s.ah a)) pm pm.length))=s2->C.act i a s=s2.eX (C.begin s2.ah s2.marks):=λs2 e=>by
     unfold ay.act;rw[hne,hpm,hac,<-e];rfl
    clear f1 f2 f3 f4 f5 hac;repeat' (first|(simp (disch:=omega) only[go_sem,simprocAttr,ub.old,m1,m2,m3,dM.av])|(simp (disch:=omega) only[go_sem,simprocAttr,m1,m2,m3,dM.av])|(refine aS ?_ ?_<;>(intro hb hd;rw[hb];clear hb))|(with_reducible refine aj ?_))
    all_goals first
     |exact absurd hd ‹¬a.kind=1›
     |skip
    all_goals rw[aR]
    all_goals first
     |(
      have hk1:¬a.kind=1:=hd;refine Py _ w6 ok ?_ hh hu ha hd λh7 n7 w7 u7=>?_
      .show(iP (eO C (i:Nat) (bC s.ah a)) pm pm.length).length=_;omega
      have m1':=(u7.old n (by omega) (λe=>by have:=w.lt e;omega)).trans m1;have l6:=u7.le;repeat' (first|(simp (disch:=omega) only[go_sem,simprocAttr,ub.old,m1'])|(simp (disch:=omega) only[go_sem,simprocAttr,m1'])|(refine aS ?_ ?_<;>(intro hb hd;rw[hb];clear hb))|(with_reducible refine aj ?_))
      rw[aR];have hsl:(C.shift i a ((s.eX pm).eX (iP (eO C (i:Nat) (bC s.ah a)) pm pm.length))).marks.length=C.clauses.length:=by
       unfold ay.shift;dsimp only;cases (a.kind !=3)with
       |true=>show(iP (eO C (i:Nat) (bC s.ah a)) pm pm.length).length=_;omega
       |false=>
        show(iP (dY C a.give a.tgt) (iP (eO C (i:Nat) (bC s.ah a)) pm pm.length) (iP (eO C (i:Nat) (bC s.ah a)) pm pm.length).length).length=_;rw[lD (jB C _ _) _ (Nat.le_refl _)];omega
      have hsh:(C.shift i a ((s.eX pm).eX (iP (eO C (i:Nat) (bC s.ah a)) pm pm.length))).ah.length=C.ah.length:=by
       unfold ay.shift;simp[hh]
      refine vQ _ w7 ok hsl hsh λh8 n8 w8 u8=>?_;repeat' (first|(simp (disch:=omega) only[go_sem,simprocAttr,ub.old])|(simp (disch:=omega) only[go_sem,simprocAttr])|(refine aS ?_ ?_<;>(intro hb hd;rw[hb];clear hb))|(with_reducible refine aj ?_))
      refine hQ _ _ ?_ (PE.trans (u6.trans (u7.trans u8)));rw[fin _ (by rw[show(a.kind !=1)=true by simpa using hd,cond_true])];exact w8)
     |(
      have hk1:a.kind=1:=hd;refine vQ _ w6 ok ?_ hh λh8 n8 w8 u8=>?_
      .show(iP (eO C (i:Nat) (bC s.ah a)) pm pm.length).length=_;omega
      repeat' (first|(simp (disch:=omega) only[go_sem,simprocAttr,ub.old])|(simp (disch:=omega) only[go_sem,simprocAttr])|(refine aS ?_ ?_<;>(intro hb hd;rw[hb];clear hb))|(with_reducible refine aj ?_))
      refine hQ _ _ ?_ (PE.trans (u6.trans u8));rw[fin _ (by rw[show(a.kind !=1)=false by simpa using hd,cond_false])];exact w8)
end
end
end
noncomputable section
section
variable {h h':AH} {n n':Nat} {b:WB} {v:CS} {C:ay} {s:aI} {tv:TS} {Q:AV->AH->Nat->Prop}
abbrev VG:AV:=.agg [.i .i64 0,.k 1,.k 1,.k 1]
theorem nG(C:ay):C.errno=0↔C.valid=true:=by
 unfold ay.errno ay.valid;cases C.over<;>cases (C.framed&&C.iW)<;>simp
theorem Wk.PI(w:Wk h n b v C s):Kp (λx=>x<b.B) h n λh n=>bI h n (b.tv s) s:=λh2 n2 h3 h4=>by
 have hs:=(h4 b.bh w.lh (by have:=w.ge.2.1;omega)).trans w.hs;have us:=(h4 b.bu w.lu (by have:=w.ge.2.2.1;omega)).trans w.us;have ms:=(h4 b.bm w.lm (by have:=w.ge.2.2.2;omega)).trans w.ms;exact⟨SL.of (λ_=>rfl) (Nat.lt_of_lt_of_le w.lh h3) hs rfl rfl w.kh,SL.of (λ_=>rfl) (Nat.lt_of_lt_of_le w.lu h3) us rfl rfl w.ku,SL.of (λ_=>rfl) (Nat.lt_of_lt_of_le w.lm h3) ms rfl rfl w.km⟩
theorem AQ(K:Nat)(hC:aY h n v C)(ho:C.off.length<=1000000)(jV:C.valid=false->∀h' n',Up h n h' n'->Q (.bJ [VG,.i .i64 1]) h' n')
 (rQ:C.valid=true->∀tv h' n',Up h n h' n'->Kp (λx=>x<n) h' n' (λh n=>bI h n tv C.first)->Q (.bJ [.agg (tv.av C.first),.i .i64 0]) h' n'):CW (EF (K+7)) 36 [.agg (v.av C)] h n Q:=by
 refine aC c17 rfl ?_;repeat' (first|(simp (disch:=omega) only[go_sem,simprocAttr,ub.old,m17,CS.av])|(simp (disch:=omega) only[go_sem,simprocAttr,m17,CS.av])|((first|rw[aR]|rw[bF]);with_reducible refine qM _ (hC.up aH) ho λ_ h2 n2 u2=>?_;(first|replace ub:=Up.trans ub (Up.trans aH u2)|have ub:=u2);have hle:=ub.le;clear u2)|(refine aS ?_ ?_<;>(intro hb hd;rw[hb];clear hb))|(with_reducible refine aj ?_))
 .refine jV ?_ _ _ aH
  cases hv:C.valid with
  |false=>rfl
  |true=>exact absurd ((nG C).2 hv) hd
 .have hv:=(nG C).1 hd
  have ok:=ay.ok hv;have FQ:=ok.dJ;have aiL:=ok.iX;rw[bF];refine eU Yk AA _ (hC.ah.up aH) (by have:=ok.jm;omega) λv' h3 n3 u3 g3 hb3 hex=>?_;obtain⟨bh,rfl,hrow,aiM,acg⟩:=hex (λe=>ok.roles (by rw[e];rfl));clear g3 hb3 hex;have ub0:=ub;replace ub:=Up.trans ub (Up.trans aH u3);have hle:=ub.le;clear u3;repeat' (first|(simp (disch:=omega) only[go_sem,simprocAttr,ub.old,hC.acts.len,hC.lk,ub0.old])|(simp (disch:=omega) only[go_sem,simprocAttr,hC.acts.len,hC.lk,ub0.old])|(refine aS ?_ ?_<;>(intro hb hd;rw[hb];clear hb))|(with_reducible refine aj ?_))
  generalize hh:Tr.set (Tr.set (Tr.set h3 n2 _) (n2+1) _) (n2+2) _=h4;have ux:Up h n h4 n3:=by rw[<-hh];exact aH
  have hf1:h4.get n=some (.row 27 (v.av C)):=by rw[<-hh];simp (disch:=omega) only[go_sem,ub.old]
  have hf2:h4.get (n+1)=some (.row 77 [.i .i64 0,.k 1,.k 1,.k 1]):=by rw[<-hh];simp (disch:=omega) only[go_sem,ub.old]
  obtain⟨b,Yo,hbg,w4⟩:∃b:WB,b.B=n+1+1/\b.g=n2+2/\Wk h4 n3 b v C ⟨0,C.ah,List.replicate C.acts.length false,List.replicate C.clauses.length ⟨0,0,0,0,false⟩⟩:=by
   rw[<-hh];refine⟨⟨n+1+1,n2+2,bh,n2,n2+1,none,some C.acts.length,some C.clauses.length⟩,rfl,rfl,?_⟩;refine⟨?_,?_,?_,?_,by show n2+2<n3;omega,acg,by show n2<n3;omega,by show n2+1<n3;omega,λk hk=>(by cases hk),λk hk=>(by cases hk;simp),λk hk=>(by cases hk;simp),⟨by show n+1+1<=n2+2;omega,by show n+1+1<=bh;omega,by show n+1+1<=n2;omega,by show n+1+1<=n2+1;omega⟩,?_⟩
   .simp (disch:=omega) only[go_sem,WB.cells,List.length_replicate]
   .simp (disch:=omega) only[go_sem,hrow]
   .simp (disch:=omega) only[go_sem]
    exact congrArg some (congrArg (AO.row 4) (jr cb false C.acts.length))
   .simp (disch:=omega) only[go_sem]
    exact congrArg some (congrArg (AO.row 185) (jr aA.av ⟨0,0,0,0,false⟩ C.clauses.length))
   .refine((Kp.Pm (n:=n+1+1) (λh' n' u=>hC.up (Up.trans ?_ u)) (λx hx=>hx)).up ub).set (.inl ?_) (Nat.le_refl _) |>.set (.inl ?_) (Nat.le_refl _) |>.set (.inl ?_) (Nat.le_refl _)
    .exact aH
    all_goals(show n+1+1<=_;omega)
  have hn3:n+1+1<=n3:=by omega
  clear hh ub ub0 hrow aiM acg hle;rw[<-hbg];refine bP C.clauses.length (λk h5 n5 G=>∃ms,Wk h5 n5 b v C ⟨0,C.ah,List.replicate C.acts.length false,ms⟩/\UX b.X h4 n3 h5 n5/\ms.length=C.clauses.length/\(∀j k',j<k->C.clauses[j]?=some k'->ms[j]?=some (fq k'))/\G=[(1,.p n 0),(2,.p (n+1) 0),(6,.p b.g 0),(33,v.k)]) (by omega) (by omega) (by omega) (by omega) (λk h3 n3 G ⟨_,_,_,_,_,e⟩=>by subst e;exact⟨rfl,rfl⟩) ⟨rfl,rfl,_,⟨_,w4,UX.refl,by simp,λ_ _ h=>by omega,rfl⟩,by(repeat' (first|exact aO|refine aM rfl ?_))⟩ ?_ ?_
  .rintro k h5 n5 G hk ⟨ms,w5,u5,hl,hms,rfl⟩
   obtain⟨cb,co,kc,t,i1,i2,i3,i4,rd⟩:=w5.jQ.VF hk;have l1:=w5.lg;have l2:=w5.lh;have l3:=w5.lu;have l4:=w5.lm;have hkm:k<ms.length:=by omega
   obtain⟨e1,e2,e3,e4,e5,e6⟩:=w5.ne;have st0:=stm (e:=185) hkm ⟨0,0,0, -1,false⟩;repeat' (first|(simp (disch:=omega) only[go_sem,simprocAttr,ub.old,aJ i1,rd.el,rd.hd,rd.all,aG.av,w5.row,w5.ms,WB.cells,b_ hkm,st0,VD hkm])|(simp (disch:=omega) only[go_sem,simprocAttr,aJ i1,rd.el,rd.hd,rd.all,aG.av,w5.row,w5.ms,WB.cells,b_ hkm,st0,VD hkm])|(refine aS ?_ ?_<;>(intro hb hd;rw[hb];clear hb))|(with_reducible refine aj ?_))
   all_goals
    have key:∀(m:aA) j k',m=fq kc->j<k+1->C.clauses[j]?=some k'->(ms.set k m)[j]?=some (fq k'):=λm j k' em hj hk'=>by
     by_cases e:k=j
     .subst e
      rw[i2]at hk';cases hk';rw[List.getElem?_set_self hkm,em]
     .rw[List.getElem?_set_ne e];exact hms j k' (by omega) hk'
   .exact⟨rfl,rfl,_,⟨_,((w5.up aH).sP (ms:=ms.set k ⟨0,0,0, -1,false⟩) (by simp)).sP (ms:=ms.set k ⟨5,0,0, -1,false⟩) (by simp),((u5.trans (UX.up aH)).set (.inl b.xm) (Nat.le_refl _)).set (.inl b.xm) (Nat.le_refl _),by simp[hl],λj k'=>key _ j k' (by unfold fq;rw[hd];rfl),rfl⟩,by(repeat' (first|exact aO|refine aM rfl ?_))⟩
   .exact⟨rfl,rfl,_,⟨_,(w5.up aH).sP (ms:=ms.set k ⟨0,0,0, -1,false⟩) (by simp),(u5.trans (UX.up aH)).set (.inl b.xm) (Nat.le_refl _),by simp[hl],λj k'=>key _ j k' (by unfold fq;rw[hd];rfl),rfl⟩,by(repeat' (first|exact aO|refine aM rfl ?_))⟩
  .rintro h5 n5 G ⟨ms,w5,u5,hl,hms,rfl⟩
   have aiO:ms=C.clauses.map fq:=List.ext_getElem? λj=>by
    rw[List.getElem?_map];cases hc:C.clauses[j]? with
    |none=>rw[List.getElem?_eq_none_iff]at hc;rw[List.getElem?_eq_none (by omega)];rfl
    |some k'=>exact hms j k' (List.getElem?_eq_some_iff.1 hc).1 hc
   subst aiO;have hX:∀x,b.X x->n+1+1<=x:=λx hx=>by
    have:=w4.ge;rcases hx with rfl|rfl|rfl|rfl<;>omega
   repeat' (first|(simp (disch:=omega) only[go_sem,simprocAttr,ub.old])|(simp (disch:=omega) only[go_sem,simprocAttr])|(refine aS ?_ ?_<;>(intro hb hd;rw[hb];clear hb))|(with_reducible refine aj ?_))
   rw[aR];refine vQ _ w5 ok hl (by rfl) λh6 n6 w6 u6=>?_;have u46:=u5.trans u6;have q1:=(u46.old n (by omega) (λe=>by have:=hX _ e;omega)).trans hf1;have q2:=(u46.old (n+1) (by omega) (λe=>by have:=hX _ e;omega)).trans hf2;repeat' (first|(simp (disch:=omega) only[go_sem,simprocAttr,ub.old,q2,w6.row,WB.cells])|(simp (disch:=omega) only[go_sem,simprocAttr,q2,w6.row,WB.cells])|(refine aS ?_ ?_<;>(intro hb hd;rw[hb];clear hb))|(with_reducible refine aj ?_))
   refine rQ hv (b.tv C.first) _ _ ?_ ?_
   .have:=((UX.up ux).trans u46).Ym λx hx=>by have:=hX x hx;omega
    exact aH
   .exact(w6.PI.set (.inl (by rw[Yo];omega)) (Nat.le_refl _)).le λx _ hx=>by rw[Yo];omega
end
end
end Go.Proofs.YtfnnplicbjeifaaGreatDoor

/- part -/
import Derived.Test.YtpmdedcnbockhaaGreatDoorS21
set_option maxRecDepth 100000
set_option maxHeartbeats 8000000
namespace Go.Proofs.YtpmdedcnbockhaaGreatDoor
section
open Go.RowKit Go.Shelf Tryz
theorem Ws(v:CV)(C:au)(p x:Int)(sv:SV)(b:List ak)(w:World)(hC:bO w v C)(hX:¬C.jS x):Calls prog 54 #[v.val C,.agg #[.int .i64 p,.slice sv.A b.length sv.c],.int .i64 x] w (tC p (nR C p x b) (j5 C p x b) w):=by
 obtain⟨⟨dV,dW⟩,⟨dX,dY⟩,⟨fB,dH⟩,⟨eZ,dM⟩,⟨dQ,dR⟩⟩:=v;obtain⟨bA,bc⟩:=sv;have hax:C.acts.length<=9223372036854775807:=nZ hC.acts;have HC:=ah hC;clear hC;simp only[CV.val,CV.cells];go_enter func54,ntmps54;go_upto_region 1 with(fail)
 generalize hW0:World.alloc _ _=W0;obtain⟨HB,hh0,gG,qd⟩:=bx3 hW0;clear hW0;obtain⟨iC,iD,iI,iy,iP,jc,jA⟩:=CS hh0;clear hh0;obtain⟨jM,jY⟩:=Ww gG;clear gG;obtain⟨Aq,Ar⟩:=Ww qd;have Oz:=ou (i:=0) qd;have OB:=ou (i:=1) qd;have hl2:=aB qd;clear qd;change Code.wp _ _ _ _ (Bl.val (⟨W0,aC _ _⟩:Bl W0));generalize(⟨W0,aC _ _⟩:Bl W0)=s0;have c0:=Aq s0;have c1:=Ar s0;have u0:=Oz s0;have u1:=OB s0;have hp:=s0.prop;have hx3:=iy s0;generalize s0.val=Z at hp c0 c1 u0 u1 hx3⊢;have HX:=ah hX;have q1:(x== -1)=false:=by rw[beq_eq_false_iff_ne];exactλe=>hX (.inl e)
 have q1n:¬(x= -1):=λe=>hX (.inl e);clear hX
 focus
  cases q2:decide (x<0)
  focus
   have q3:decide ((C.acts.length:Int)<=x)=true:=by
    rw[decide_eq_true_eq];rw[decide_eq_false_iff_not]at q2;have:=HX.out;rcases Decidable.em ((C.acts.length:Int)<=x)with h|h
    .exact h
    .exact absurd (.inr ⟨by omega,by omega⟩) this
  rotate_left;all_goals
   go_wp2;obtain⟨Wf,iq⟩:∃Wf,Hid (Wf=(Z.setCell ⟨w.heap.size+1+1,0,none⟩ (.int .i64 0)).setCell ⟨w.heap.size+1+1,1,none⟩ (.slice none 0 0)):=⟨_,rfl⟩;rw[<-iq.out];obtain⟨g0,g1,lF⟩:=jw c0 c1 iq.out;refine bodyPost_ret (v:=.tuple #[.agg #[.int .i64 0,.slice none 0 0],.int .i64 1]) (by simp[results,results54,go_sem,g0,g1]) rfl ⟨0,none,0,[],1,rfl,?_,.inr ⟨by decide,rfl,rfl,rfl,rfl,.inl ⟨rfl,HX.out⟩⟩⟩;exact(HB.out.trans (hp.mono HB.out.size)).trans (lF.below (by have:=hp.size;omega) (λk hk=>by omega))
theorem SG(v:CV)(C:au)(p:Int)(sv:SV)(b:List ak)(w:World)(hC:bO w v C)(hS:iJ w sv b)(hO:∀s∈b,aV C s)(hT:Tab w)(hl:b.length<=1000):Calls prog 54 #[v.val C,.agg #[.int .i64 p,.slice sv.A b.length sv.c],.int .i64 (-1)] w (tC p (nR C p (-1) b) (j5 C p (-1) b) w):=by
 obtain⟨⟨dV,dW⟩,⟨dX,dY⟩,⟨fB,dH⟩,⟨eZ,dM⟩,⟨dQ,dR⟩⟩:=v;obtain⟨bA,bc⟩:=sv;have hax:C.acts.length<=9223372036854775807:=nZ hC.acts;have HC:=ah hC;clear hC;simp only[CV.val,CV.cells];go_enter func54,ntmps54;go_upto_region 1 with(fail)
 generalize hW0:World.alloc _ _=W0;obtain⟨HB,hh0,gG,qd⟩:=bx3 hW0;clear hW0;obtain⟨iC,iD,iI,iy,iP,jc,jA⟩:=CS hh0;clear hh0;obtain⟨jM,jY⟩:=Ww gG;clear gG;obtain⟨Aq,Ar⟩:=Ww qd;have Oz:=ou (i:=0) qd;have OB:=ou (i:=1) qd;have hl2:=aB qd;clear qd;have HS:=ah hS;clear hS;have HO:=ah hO;clear hO;have HT:=ah hT;clear hT;have HX:Hid (C.jS (-1)):=.inl rfl;have a3:W0.cell? ⟨w.heap.size,3,none⟩=some (.slice fB C.acts.length dH):=iy ⟨W0,aC _ _⟩;have b1:W0.cell? ⟨w.heap.size+1,1,none⟩=some (.slice bA b.length bc):=jY ⟨W0,aC _ _⟩;go_wp2;clear a3 b1
 go_loopg [32,8] b.length (λgk v32 v8 wr=>∃(k:Nat)(R:List ak)(A8:Option Addr)(c8:Nat),gk=b.length - k/\k<=b.length/\v32= .int .i64 k/\v8= .slice A8 R.length c8/\Hid (R=iX C p (-1) b k)/\Hid (eG W0.heap.size wr (.slice A8 R.length c8) R)/\Hid (Below W0.heap.size W0 wr))
 case atStart=>exact⟨0,[],none,0,rfl,aU _,rfl,rfl,rfl,eG.nil _ _,aC _ _⟩
 case round=>
  obtain⟨k,R,A8,c8,eO,hk,rfl,rfl,HR,HN,HW⟩:=hrel;have iw:=ah eO;clear eO;by_cases hlt:k<b.length
  .obtain⟨s,hs⟩:∃s,b[k]?=some s:=⟨_,aS hlt⟩
   have uZ:=ah (HO.out s (cK hs));have vC:=ah (Cn (C:=C) (p:=p) (x:=(-1)) hs);obtain⟨lb,agH,hA,hlb,hst⟩:=(HS.out.below (av HB.out HW.out)).form (by omega);simp only at hA;subst hA;obtain⟨⟨⟨eu,dN⟩,⟨eH,dL⟩,⟨fF,bY⟩⟩,yH,hcell⟩:=hst k s hs;have hcl:=hcell wr (aC _ _);obtain⟨c0,c1,c2,c3⟩:=rw4 hcl rfl;have HST:=ah yH;clear yH hst hcell hcl hs;have k0:(0:Int)<=(k:Int):=by omega
   have k1:(k:Int)<(b.length:Int):=by omega
   go_upto_region 7 with(fail)
   obtain⟨Wa,ow⟩:∃Wa,Hid (Wa=wr.alloc (.cells #[.int .i64 s.day,.slice eu s.aj.length dN,.slice eH s.used.length dL,.slice fF s.marks.length bY] 48)):=⟨_,rfl⟩;rw[<-ow.out];have hba:Below wr.heap.size wr Wa:=by rw[ow.out];exact aJ (aC _ _) _
   have SH:Wa.heap[wr.heap.size]?=some (.cells #[.int .i64 s.day,.slice eu s.aj.length dN,.slice eH s.used.length dL,.slice fF s.marks.length bY] 48 (0,0)):=by rw[ow.out];exact bK wr _
   have tL:Hid (∀z:Bl Wa,Below W0.heap.size W0 z.val):=λz=>av (av HW.out hba) z.prop;obtain⟨d0,d1,d2,d3⟩:=Wx SH;have y0:=zM tL.out iC;have y1:=zM tL.out iD;have y2:=zM tL.out iI;have y3:=zM tL.out iy;have y4:=zM tL.out iP;have y5:=zM tL.out jc;have y6:=zM tL.out jA;have yp:=zM tL.out jM;have Nh:Hid (∀z:Bl Wa,aQ z.val (⟨⟨eu,dN⟩,⟨eH,dL⟩,⟨fF,bY⟩⟩:TV) s):=λz=>HST.out.below (av hba z.prop);have rz:Hid (∀z:Bl Wa,bO z.val (⟨⟨dV,dW⟩,⟨dX,dY⟩,⟨fB,dH⟩,⟨eZ,dM⟩,⟨dQ,dR⟩⟩:CV) C):=λz=>HC.out.below (av HB.out (tL.out z));have Bq:Hid (∀z:Bl Wa,eG W0.heap.size z.val (.slice A8 R.length c8) R):=λz=>HN.out.below (av hba z.prop);have kL:Hid (wr.heap.size<Wa.heap.size):=aB SH;clear c0 c1 c2 c3 SH hba;obtain⟨za,hza⟩:∃za:Bl Wa,za.val=Wa:=⟨⟨Wa,aC _ _⟩,rfl⟩;rw[<-hza];clear hza;cases q4:decide (C.days<=s.day)with
   |true=>
    have HE:Hid (R=iX C p (-1) b (k+1)):=by
     show _=_;rw[vC.out,<-HR.out,fits,q4];simp
    go_wp2
    go_roundg (b.length - (k+1))
    case measure=>rw[iw.out];omega
    case rel=>exact⟨k+1,R,A8,c8,rfl,by omega,by go_num,rfl,HE,Bq.out za,tL.out za⟩
   |false=>
    have HE:Hid (iX C p (-1) b (k+1)=R++[C.next s (-1)]):=by
     show _=_;rw[vC.out,<-HR.out,fits,q4];simp
    have hsf:=rO HX.out uZ.out (by rw[decide_eq_false_iff_not]at q4;omega);have E9:Hid (∀z:Bl Wa,Calls prog 39 #[.agg #[.int .i64 C.aF,.slice dV C.aj.length dW,.slice dX C.units.length dY,.slice fB C.acts.length dH,.slice eZ C.clauses.length dM,.int .i64 C.days,.slice dQ C.off.length dR],.agg #[.int .i64 s.day,.slice eu s.aj.length dN,.slice eH s.used.length dL,.slice fF s.marks.length bY],.int .i64 (-1)] z.val (uX (C.next s (-1)) z.val)):=λz=>by
     have h:=uV (⟨⟨dV,dW⟩,⟨dX,dY⟩,⟨fB,dH⟩,⟨eZ,dM⟩,⟨dQ,dR⟩⟩:CV) C (⟨⟨eu,dN⟩,⟨eH,dL⟩,⟨fF,bY⟩⟩:TV) s (-1) z.val (rz.out z) (Nh.out z);rw[hsf.1]at h;exact h.mono (λ_ _ h=>h.ret)
    clear hsf;have FM:Hid (R.length<=b.length):=by show R.length<=_;rw[HR.out];exact tF _ _ _ _ _
    generalize hs':C.next s (-1)=s' at HE E9;have qD:=ah hs';clear hs';go_wp2_with (first|(go_at_call 39;refine(E9.out _).mono ?_;rintro e z2 ⟨E_,Fa,Fb,Fe,Fg,Fh,rfl,yJ,yK,hz2⟩;refine Hid.out ?_));refine ah ?_;obtain⟨zb,Io⟩:∃zb:Bl Wa,Hid (Below zb.val.heap.size zb.val z2/\lN zb.val.heap.size ⟨⟨E_,Fa⟩,⟨Fb,Fe⟩,⟨Fg,Fh⟩⟩):=⟨_,hz2,yK⟩;clear hz2 yK;have MU:=ah yJ;clear yJ;go_upto_region 9 with(fail)
    obtain⟨Wb,yC⟩:∃Wb,Hid (Wb=z2.alloc (.cells #[.int .i64 s'.day,.slice E_ s'.aj.length Fa,.slice Fb s'.used.length Fe,.slice Fg s'.marks.length Fh] 48)):=⟨_,rfl⟩;rw[<-yC.out];have hbb:Below z2.heap.size z2 Wb:=by rw[yC.out];exact aJ (aC _ _) _
    have hbx:Wb.heap[z2.heap.size]?=some (.cells #[.int .i64 s'.day,.slice E_ s'.aj.length Fa,.slice Fb s'.used.length Fe,.slice Fg s'.marks.length Fh] 48 (0,0)):=by rw[yC.out];exact bK z2 _
    have e0:Wb.cell? ⟨z2.heap.size,0,none⟩=some (.int .i64 s'.day):=(aK Wb _ 0 _ _ _ hbx).trans rfl;have e1:Wb.cell? ⟨z2.heap.size,1,none⟩=some (.slice E_ s'.aj.length Fa):=(aK Wb _ 1 _ _ _ hbx).trans rfl;have e2:Wb.cell? ⟨z2.heap.size,2,none⟩=some (.slice Fb s'.used.length Fe):=(aK Wb _ 2 _ _ _ hbx).trans rfl;have e3:Wb.cell? ⟨z2.heap.size,3,none⟩=some (.slice Fg s'.marks.length Fh):=(aK Wb _ 3 _ _ _ hbx).trans rfl;have Nl:Hid (Below zb.val.heap.size zb.val Wb):=av Io.out.1 hbb;have Qj:Hid (Below W0.heap.size W0 Wb):=av (tL.out zb) Nl.out;have HOW:Hid (eG W0.heap.size Wb (.slice A8 R.length c8) R):=(Bq.out zb).below Nl.out;have aeR:Hid (Sep (Value.slice A8 R.length c8).ownBlock Wb ⟨⟨E_,Fa⟩,⟨Fb,Fe⟩,⟨Fg,Fh⟩⟩ s'):=(Bq.out zb).sep (bJ _) (MU.out.below hbb) Io.out.2;have YG:Hid (lN W0.heap.size ⟨⟨E_,Fa⟩,⟨Fb,Fe⟩,⟨Fg,Fh⟩⟩):=Io.out.2.mono (tL.out zb).size;have hbw:=Qj.out.size;have hrl2:R.length<=1000000:=by have:=FM.out;omega
    clear hbx hbb;go_wp2_with (at_builtin;refine qI rfl _ _ rfl W0.heap.size (.slice A8 R.length c8) R rfl HOW.out ⟨⟨E_,Fa⟩,⟨Fb,Fe⟩,⟨Fg,Fh⟩⟩ s' aeR.out YG.out _ rfl rfl hrl2 hbw ?_;intro A9 c9 w9 h1 h2;refine Hid.out ?_);refine ah ?_;have HN9:=ah h1;have HW9:Hid (Below W0.heap.size W0 w9):=Qj.out.trans h2;have HE9:Hid (R++[s']=iX C p (-1) b (k+1)):=HE.out.symm;clear h1 h2;go_wp2
    go_roundg (b.length - (k+1))
    case measure=>rw[iw.out];omega
    case rel=>exact⟨k+1,R++[s'],A9,c9,rfl,by omega,by go_num,by simp,HE9,HN9,HW9⟩
  .obtain rfl:k=b.length:=by omega
   have Wi:Hid (R=C.nexts p (-1) b):=HR.out.trans (ED C p (-1) b);have aeS:Hid (∀s∈R,aV C s):=λs hs=>Il (p:=p) (k:=b.length) HX.out HO.out s (by rw[<-HR.out];exact hs);have hrl:R.length<=b.length:=by rw[HR.out];exact tF _ _ _ _ _
   have Jy:Hid (aW W0.heap.size wr ⟨A8,c8⟩ R):=by
    obtain⟨nA,nc,hv8,hN⟩:=HN.out.ret;injection hv8 with e1 _ e2
    rw[e1,e2];exact hN
   clear HN;have c0:=Aq ⟨wr,HW.out⟩;have c1:=Ar ⟨wr,HW.out⟩;have u0:=Oz ⟨wr,HW.out⟩;have u1:=OB ⟨wr,HW.out⟩;have yp:=jM ⟨wr,HW.out⟩;have y0:=iC ⟨wr,HW.out⟩;have y1:=iD ⟨wr,HW.out⟩;have y2:=iI ⟨wr,HW.out⟩;have y3:=iy ⟨wr,HW.out⟩;have y4:=iP ⟨wr,HW.out⟩;have y5:=jc ⟨wr,HW.out⟩;have y6:=jA ⟨wr,HW.out⟩;simp only at c0 c1 u0 u1 yp y0 y1 y2 y3 y4 y5 y6;by_cases hr0:R.length=0
   .have HR0:Hid (C.nexts p (-1) b=[]):=Wi.out.symm.trans (wZ hr0)
    have aeT:((R.length:Int)==0)=true:=by rw[beq_iff_eq];omega
    clear hr0;go_wp2;try rw[Exit.noGoto_ret]
    obtain⟨Wf,iq⟩:∃Wf,Hid (Wf=(wr.setCell ⟨w.heap.size+1+1,0,none⟩ (.int .i64 0)).setCell ⟨w.heap.size+1+1,1,none⟩ (.slice none 0 0)):=⟨_,rfl⟩;rw[<-iq.out];obtain⟨g0,g1,lF⟩:=jw c0 c1 iq.out;refine bodyPost_ret (v:=.tuple #[.agg #[.int .i64 0,.slice none 0 0],.int .i64 13]) (by simp[results,results54,go_sem,g0,g1]) rfl ⟨0,none,0,[],13,rfl,?_,.inr ⟨by decide,rfl,rfl,rfl,rfl,.inr ⟨HX.out,.inl ⟨rfl,HR0.out⟩⟩⟩⟩;exact(HB.out.trans (HW.out.mono HB.out.size)).trans (lF.below (by have:=HW.out.size;have:=HB.out.size;omega) (λk hk=>by omega))
   .have Ub:Hid (C.nexts p (-1) b≠[]):=λe=>hr0 (by rw[Wi.out,e];rfl)
    have aeT:((R.length:Int)==0)=false:=by rw[beq_eq_false_iff_ne];omega
    have Nc:Hid (Calls prog 81 #[.agg #[.int .i64 C.aF,.slice dV C.aj.length dW,.slice dX C.units.length dY,.slice fB C.acts.length dH,.slice eZ C.clauses.length dM,.int .i64 C.days,.slice dQ C.off.length dR],.int .i64 p,.slice A8 R.length c8] wr (Ck W0.heap.size C p R wr)):=
     yG (⟨⟨dV,dW⟩,⟨dX,dY⟩,⟨fB,dH⟩,⟨eZ,dM⟩,⟨dQ,dR⟩⟩:CV) C p ⟨A8,c8⟩ R wr (HC.out.below (av HB.out HW.out)) Jy.out HW.out.size aeS.out (HT.out.below (av HB.out HW.out)) (by omega)
    clear hr0;go_wp2_with (go_at_call 81;refine(Nc.out.mono (λ_ _ h=>h.ret)).mono ?_;rintro e z1 ⟨r,A,c,er,rfl,hb1,hcase⟩;refine Hid.out ?_);refine ah ?_;have hpz:Below W0.heap.size W0 z1:=av HW.out hb1;have lz:w.heap.size+1+1<wr.heap.size:=by have:=HW.out.size;omega
    have lp:w.heap.size+1<wr.heap.size:=by omega
    have e0:=((aL hb1).1 _ 0 lz).trans c0;have e1:=((aL hb1).1 _ 1 lz).trans c1;have h0:=((aL hb1).2 _ 0 lz).trans u0;have h1:=((aL hb1).2 _ 1 lz).trans u1;have zp:=((aL hb1).1 _ 0 lp).trans yp;clear hb1 c0 c1 u0 u1 yp y0 y1 y2 y3 y4 y5 y6;rcases hcase with⟨rfl,hsn,Ik⟩|⟨rfl,rfl,rfl,rfl,yM⟩
    .have aeU:=ah hsn;clear hsn
     have Rq:=ah Ik;clear Ik;go_wp2;try rw[Exit.noGoto_ret]
     obtain⟨Wf,iq⟩:∃Wf,Hid (Wf=(z1.setCell ⟨w.heap.size+1+1,0,none⟩ (.int .i64 p)).setCell ⟨w.heap.size+1+1,1,none⟩ (.slice A r.length c)):=⟨_,rfl⟩;rw[<-iq.out];obtain⟨g0,g1,lF⟩:=jw e0 e1 iq.out;refine bodyPost_ret (v:=.tuple #[.agg #[.int .i64 p,.slice A r.length c],.int .i64 0]) (by simp[results,results54,go_sem,g0,g1]) rfl ⟨p,A,c,r,0,rfl,?_,.inl ⟨rfl,rfl,?_,HX.out,Ub.out,?_⟩⟩
     .exact(HB.out.trans (hpz.mono HB.out.size)).trans (lF.below (by have:=hpz.size;have:=HB.out.size;omega) (λk hk=>by omega))
     .exact(aeU.out.kX lF (λk hk=>by omega)).mono HB.out.size
     .rw[<-Wi.out];exact Rq.out
    .have Ql:=ah yM;clear yM
     go_wp2;try rw[Exit.noGoto_ret]
     obtain⟨Wf,iq⟩:∃Wf,Hid (Wf=(z1.setCell ⟨w.heap.size+1+1,0,none⟩ (.int .i64 0)).setCell ⟨w.heap.size+1+1,1,none⟩ (.slice none 0 0)):=⟨_,rfl⟩;rw[<-iq.out];obtain⟨g0,g1,lF⟩:=jw e0 e1 iq.out;refine bodyPost_ret (v:=.tuple #[.agg #[.int .i64 0,.slice none 0 0],.int .i64 3]) (by simp[results,results54,go_sem,g0,g1]) rfl ⟨0,none,0,[],3,rfl,?_,.inr ⟨by decide,rfl,rfl,rfl,rfl,.inr ⟨HX.out,.inr ⟨rfl,?_⟩⟩⟩⟩
     .exact(HB.out.trans (hpz.mono HB.out.size)).trans (lF.below (by have:=hpz.size;have:=HB.out.size;omega) (λk hk=>by omega))
     .rw[<-Wi.out];exact Ql.out
theorem Wt(v:CV)(C:au)(p x:Int)(sv:SV)(b:List ak)(w:World)(hC:bO w v C)(hS:iJ w sv b)(hO:∀s∈b,aV C s)(hT:Tab w)(hl:b.length<=1000)(hX:0<=x/\x<C.acts.length):Calls prog 54 #[v.val C,.agg #[.int .i64 p,.slice sv.A b.length sv.c],.int .i64 x] w (tC p (nR C p x b) (j5 C p x b) w):=by
 obtain⟨⟨dV,dW⟩,⟨dX,dY⟩,⟨fB,dH⟩,⟨eZ,dM⟩,⟨dQ,dR⟩⟩:=v;obtain⟨bA,bc⟩:=sv;have hax:C.acts.length<=9223372036854775807:=nZ hC.acts;have HC:=ah hC;clear hC;simp only[CV.val,CV.cells];go_enter func54,ntmps54;go_upto_region 1 with(fail)
 generalize hW0:World.alloc _ _=W0;obtain⟨HB,hh0,gG,qd⟩:=bx3 hW0;clear hW0;obtain⟨iC,iD,iI,iy,iP,jc,jA⟩:=CS hh0;clear hh0;obtain⟨jM,jY⟩:=Ww gG;clear gG;obtain⟨Aq,Ar⟩:=Ww qd;have Oz:=ou (i:=0) qd;have OB:=ou (i:=1) qd;have hl2:=aB qd;clear qd;have HS:=ah hS;clear hS;have HO:=ah hO;clear hO;have HT:=ah hT;clear hT;have HX:Hid (C.jS x):=.inr hX;have q1:(x== -1)=false:=by rw[beq_eq_false_iff_ne];omega
 have q1n:¬(x= -1):=by omega
 have q2:decide (x<0)=false:=by rw[decide_eq_false_iff_not];omega
 have q3:decide ((C.acts.length:Int)<=x)=false:=by rw[decide_eq_false_iff_not];omega
 clear hX;have a3:W0.cell? ⟨w.heap.size,3,none⟩=some (.slice fB C.acts.length dH):=iy ⟨W0,aC _ _⟩;have b1:W0.cell? ⟨w.heap.size+1,1,none⟩=some (.slice bA b.length bc):=jY ⟨W0,aC _ _⟩;go_wp2;clear a3 b1
 go_loopg [32,8] b.length (λgk v32 v8 wr=>∃(k:Nat)(R:List ak)(A8:Option Addr)(c8:Nat),gk=b.length - k/\k<=b.length/\v32= .int .i64 k/\v8= .slice A8 R.length c8/\Hid (R=iX C p x b k)/\Hid (eG W0.heap.size wr (.slice A8 R.length c8) R)/\Hid (Below W0.heap.size W0 wr))
 case atStart=>exact⟨0,[],none,0,rfl,aU _,rfl,rfl,rfl,eG.nil _ _,aC _ _⟩
 case round=>
  obtain⟨k,R,A8,c8,eO,hk,rfl,rfl,HR,HN,HW⟩:=hrel;have iw:=ah eO;clear eO;by_cases hlt:k<b.length
  .obtain⟨s,hs⟩:∃s,b[k]?=some s:=⟨_,aS hlt⟩
   have uZ:=ah (HO.out s (cK hs));have vC:=ah (Cn (C:=C) (p:=p) (x:=x) hs);obtain⟨lb,agH,hA,hlb,hst⟩:=(HS.out.below (av HB.out HW.out)).form (by omega);simp only at hA;subst hA;obtain⟨⟨⟨eu,dN⟩,⟨eH,dL⟩,⟨fF,bY⟩⟩,yH,hcell⟩:=hst k s hs;have hcl:=hcell wr (aC _ _);obtain⟨c0,c1,c2,c3⟩:=rw4 hcl rfl;have HST:=ah yH;clear yH hst hcell hcl hs;have k0:(0:Int)<=(k:Int):=by omega
   have k1:(k:Int)<(b.length:Int):=by omega
   go_upto_region 7 with(fail)
   obtain⟨Wa,ow⟩:∃Wa,Hid (Wa=wr.alloc (.cells #[.int .i64 s.day,.slice eu s.aj.length dN,.slice eH s.used.length dL,.slice fF s.marks.length bY] 48)):=⟨_,rfl⟩;rw[<-ow.out];have hba:Below wr.heap.size wr Wa:=by rw[ow.out];exact aJ (aC _ _) _
   have SH:Wa.heap[wr.heap.size]?=some (.cells #[.int .i64 s.day,.slice eu s.aj.length dN,.slice eH s.used.length dL,.slice fF s.marks.length bY] 48 (0,0)):=by rw[ow.out];exact bK wr _
   have tL:Hid (∀z:Bl Wa,Below W0.heap.size W0 z.val):=λz=>av (av HW.out hba) z.prop;obtain⟨d0,d1,d2,d3⟩:=Wx SH;have y0:=zM tL.out iC;have y1:=zM tL.out iD;have y2:=zM tL.out iI;have y3:=zM tL.out iy;have y4:=zM tL.out iP;have y5:=zM tL.out jc;have y6:=zM tL.out jA;have yp:=zM tL.out jM;have Nh:Hid (∀z:Bl Wa,aQ z.val (⟨⟨eu,dN⟩,⟨eH,dL⟩,⟨fF,bY⟩⟩:TV) s):=λz=>HST.out.below (av hba z.prop);have rz:Hid (∀z:Bl Wa,bO z.val (⟨⟨dV,dW⟩,⟨dX,dY⟩,⟨fB,dH⟩,⟨eZ,dM⟩,⟨dQ,dR⟩⟩:CV) C):=λz=>HC.out.below (av HB.out (tL.out z));have Bq:Hid (∀z:Bl Wa,eG W0.heap.size z.val (.slice A8 R.length c8) R):=λz=>HN.out.below (av hba z.prop);have kL:Hid (wr.heap.size<Wa.heap.size):=aB SH;clear c0 c1 c2 c3 SH hba;obtain⟨za,hza⟩:∃za:Bl Wa,za.val=Wa:=⟨⟨Wa,aC _ _⟩,rfl⟩;rw[<-hza];clear hza;cases q4:decide (C.days<=s.day)with
   |true=>
    have HE:Hid (R=iX C p x b (k+1)):=by
     show _=_;rw[vC.out,<-HR.out,fits,q4];simp
    go_wp2
    go_roundg (b.length - (k+1))
    case measure=>rw[iw.out];omega
    case rel=>exact⟨k+1,R,A8,c8,rfl,by omega,by go_num,rfl,HE,Bq.out za,tL.out za⟩
   |false=>
    have abz:Hid (∀z:Bl Wa,Calls prog 76 #[.agg #[.int .i64 C.aF,.slice dV C.aj.length dW,.slice dX C.units.length dY,.slice fB C.acts.length dH,.slice eZ C.clauses.length dM,.int .i64 C.days,.slice dQ C.off.length dR],.agg #[.int .i64 s.day,.slice eu s.aj.length dN,.slice eH s.used.length dL,.slice fF s.marks.length bY],.int .i64 p,.int .i64 x] z.val (dZ (.bool (C.sees s p x)) z.val)):=λz=>xD (⟨⟨dV,dW⟩,⟨dX,dY⟩,⟨fB,dH⟩,⟨eZ,dM⟩,⟨dQ,dR⟩⟩:CV) C (⟨⟨eu,dN⟩,⟨eH,dL⟩,⟨fF,bY⟩⟩:TV) s p x z.val (rz.out z) (Nh.out z);cases q5:C.sees s p x with
    |false=>
     rw[q5]at abz;have HE:Hid (R=iX C p x b (k+1)):=by
      show _=_;rw[vC.out,<-HR.out,fits,q4,q1,q5];simp
     go_wp2_with (go_at_call 76;refine(abz.out _).mono ?_;rintro e z ⟨rfl,hz⟩;obtain⟨z,rfl⟩:=Bl.on hz;clear hz)
     go_roundg (b.length - (k+1))
     case measure=>rw[iw.out];omega
     case rel=>exact⟨k+1,R,A8,c8,rfl,by omega,by go_num,rfl,HE,Bq.out _,tL.out _⟩
    |true=>
     rw[q5]at abz;have HE:Hid (iX C p x b (k+1)=R++[C.next s x]):=by
      show _=_;rw[vC.out,<-HR.out,fits,q4,q1,q5];simp
     have hsf:=rO HX.out uZ.out (by rw[decide_eq_false_iff_not]at q4;omega);have E9:Hid (∀z:Bl Wa,Calls prog 39 #[.agg #[.int .i64 C.aF,.slice dV C.aj.length dW,.slice dX C.units.length dY,.slice fB C.acts.length dH,.slice eZ C.clauses.length dM,.int .i64 C.days,.slice dQ C.off.length dR],.agg #[.int .i64 s.day,.slice eu s.aj.length dN,.slice eH s.used.length dL,.slice fF s.marks.length bY],.int .i64 x] z.val (uX (C.next s x) z.val)):=λz=>by
      have h:=uV (⟨⟨dV,dW⟩,⟨dX,dY⟩,⟨fB,dH⟩,⟨eZ,dM⟩,⟨dQ,dR⟩⟩:CV) C (⟨⟨eu,dN⟩,⟨eH,dL⟩,⟨fF,bY⟩⟩:TV) s x z.val (rz.out z) (Nh.out z);rw[hsf.1]at h;exact h.mono (λ_ _ h=>h.ret)
     clear hsf;have FM:Hid (R.length<=b.length):=by show R.length<=_;rw[HR.out];exact tF _ _ _ _ _
     generalize hs':C.next s x=s' at HE E9;have qD:=ah hs';clear hs';go_wp2_with (first|(go_at_call 76;refine(abz.out _).mono ?_;rintro e z ⟨rfl,hz⟩;obtain⟨z,rfl⟩:=Bl.on hz;clear hz)|(go_at_call 39;refine(E9.out _).mono ?_;rintro e z2 ⟨E_,Fa,Fb,Fe,Fg,Fh,rfl,yJ,yK,hz2⟩;refine Hid.out ?_));refine ah ?_;obtain⟨zb,Io⟩:∃zb:Bl Wa,Hid (Below zb.val.heap.size zb.val z2/\lN zb.val.heap.size ⟨⟨E_,Fa⟩,⟨Fb,Fe⟩,⟨Fg,Fh⟩⟩):=⟨_,hz2,yK⟩;clear hz2 yK;have MU:=ah yJ;clear yJ;go_upto_region 9 with(fail)
     obtain⟨Wb,yC⟩:∃Wb,Hid (Wb=z2.alloc (.cells #[.int .i64 s'.day,.slice E_ s'.aj.length Fa,.slice Fb s'.used.length Fe,.slice Fg s'.marks.length Fh] 48)):=⟨_,rfl⟩;rw[<-yC.out];have hbb:Below z2.heap.size z2 Wb:=by rw[yC.out];exact aJ (aC _ _) _
     have hbx:Wb.heap[z2.heap.size]?=some (.cells #[.int .i64 s'.day,.slice E_ s'.aj.length Fa,.slice Fb s'.used.length Fe,.slice Fg s'.marks.length Fh] 48 (0,0)):=by rw[yC.out];exact bK z2 _
     have e0:Wb.cell? ⟨z2.heap.size,0,none⟩=some (.int .i64 s'.day):=(aK Wb _ 0 _ _ _ hbx).trans rfl;have e1:Wb.cell? ⟨z2.heap.size,1,none⟩=some (.slice E_ s'.aj.length Fa):=(aK Wb _ 1 _ _ _ hbx).trans rfl;have e2:Wb.cell? ⟨z2.heap.size,2,none⟩=some (.slice Fb s'.used.length Fe):=(aK Wb _ 2 _ _ _ hbx).trans rfl;have e3:Wb.cell? ⟨z2.heap.size,3,none⟩=some (.slice Fg s'.marks.length Fh):=(aK Wb _ 3 _ _ _ hbx).trans rfl;have Nl:Hid (Below zb.val.heap.size zb.val Wb):=av Io.out.1 hbb;have Qj:Hid (Below W0.heap.size W0 Wb):=av (tL.out zb) Nl.out;have HOW:Hid (eG W0.heap.size Wb (.slice A8 R.length c8) R):=(Bq.out zb).below Nl.out;have aeR:Hid (Sep (Value.slice A8 R.length c8).ownBlock Wb ⟨⟨E_,Fa⟩,⟨Fb,Fe⟩,⟨Fg,Fh⟩⟩ s'):=(Bq.out zb).sep (bJ _) (MU.out.below hbb) Io.out.2;have YG:Hid (lN W0.heap.size ⟨⟨E_,Fa⟩,⟨Fb,Fe⟩,⟨Fg,Fh⟩⟩):=Io.out.2.mono (tL.out zb).size;have hbw:=Qj.out.size;have hrl2:R.length<=1000000:=by have:=FM.out;omega
     clear hbx hbb;go_wp2_with (at_builtin;refine qI rfl _ _ rfl W0.heap.size (.slice A8 R.length c8) R rfl HOW.out ⟨⟨E_,Fa⟩,⟨Fb,Fe⟩,⟨Fg,Fh⟩⟩ s' aeR.out YG.out _ rfl rfl hrl2 hbw ?_;intro A9 c9 w9 h1 h2;refine Hid.out ?_);refine ah ?_;have HN9:=ah h1;have HW9:Hid (Below W0.heap.size W0 w9):=Qj.out.trans h2;have HE9:Hid (R++[s']=iX C p x b (k+1)):=HE.out.symm;clear h1 h2;go_wp2
     go_roundg (b.length - (k+1))
     case measure=>rw[iw.out];omega
     case rel=>exact⟨k+1,R++[s'],A9,c9,rfl,by omega,by go_num,by simp,HE9,HN9,HW9⟩
  .obtain rfl:k=b.length:=by omega
   have Wi:Hid (R=C.nexts p x b):=HR.out.trans (ED C p x b);have aeS:Hid (∀s∈R,aV C s):=λs hs=>Il (p:=p) (k:=b.length) HX.out HO.out s (by rw[<-HR.out];exact hs);have hrl:R.length<=b.length:=by rw[HR.out];exact tF _ _ _ _ _
   have Jy:Hid (aW W0.heap.size wr ⟨A8,c8⟩ R):=by
    obtain⟨nA,nc,hv8,hN⟩:=HN.out.ret;injection hv8 with e1 _ e2
    rw[e1,e2];exact hN
   clear HN;have c0:=Aq ⟨wr,HW.out⟩;have c1:=Ar ⟨wr,HW.out⟩;have u0:=Oz ⟨wr,HW.out⟩;have u1:=OB ⟨wr,HW.out⟩;have yp:=jM ⟨wr,HW.out⟩;have y0:=iC ⟨wr,HW.out⟩;have y1:=iD ⟨wr,HW.out⟩;have y2:=iI ⟨wr,HW.out⟩;have y3:=iy ⟨wr,HW.out⟩;have y4:=iP ⟨wr,HW.out⟩;have y5:=jc ⟨wr,HW.out⟩;have y6:=jA ⟨wr,HW.out⟩;simp only at c0 c1 u0 u1 yp y0 y1 y2 y3 y4 y5 y6;by_cases hr0:R.length=0
   .have HR0:Hid (C.nexts p x b=[]):=Wi.out.symm.trans (wZ hr0)
    have aeT:((R.length:Int)==0)=true:=by rw[beq_iff_eq];omega
    clear hr0;go_wp2;try rw[Exit.noGoto_ret]
    obtain⟨Wf,iq⟩:∃Wf,Hid (Wf=(wr.setCell ⟨w.heap.size+1+1,0,none⟩ (.int .i64 0)).setCell ⟨w.heap.size+1+1,1,none⟩ (.slice none 0 0)):=⟨_,rfl⟩;rw[<-iq.out];obtain⟨g0,g1,lF⟩:=jw c0 c1 iq.out;refine bodyPost_ret (v:=.tuple #[.agg #[.int .i64 0,.slice none 0 0],.int .i64 13]) (by simp[results,results54,go_sem,g0,g1]) rfl ⟨0,none,0,[],13,rfl,?_,.inr ⟨by decide,rfl,rfl,rfl,rfl,.inr ⟨HX.out,.inl ⟨rfl,HR0.out⟩⟩⟩⟩;exact(HB.out.trans (HW.out.mono HB.out.size)).trans (lF.below (by have:=HW.out.size;have:=HB.out.size;omega) (λk hk=>by omega))
   .have Ub:Hid (C.nexts p x b≠[]):=λe=>hr0 (by rw[Wi.out,e];rfl)
    have aeT:((R.length:Int)==0)=false:=by rw[beq_eq_false_iff_ne];omega
    have Nc:Hid (Calls prog 81 #[.agg #[.int .i64 C.aF,.slice dV C.aj.length dW,.slice dX C.units.length dY,.slice fB C.acts.length dH,.slice eZ C.clauses.length dM,.int .i64 C.days,.slice dQ C.off.length dR],.int .i64 p,.slice A8 R.length c8] wr (Ck W0.heap.size C p R wr)):=
     yG (⟨⟨dV,dW⟩,⟨dX,dY⟩,⟨fB,dH⟩,⟨eZ,dM⟩,⟨dQ,dR⟩⟩:CV) C p ⟨A8,c8⟩ R wr (HC.out.below (av HB.out HW.out)) Jy.out HW.out.size aeS.out (HT.out.below (av HB.out HW.out)) (by omega)
    clear hr0;go_wp2_with (go_at_call 81;refine(Nc.out.mono (λ_ _ h=>h.ret)).mono ?_;rintro e z1 ⟨r,A,c,er,rfl,hb1,hcase⟩;refine Hid.out ?_);refine ah ?_;have hpz:Below W0.heap.size W0 z1:=av HW.out hb1;have lz:w.heap.size+1+1<wr.heap.size:=by have:=HW.out.size;omega
    have lp:w.heap.size+1<wr.heap.size:=by omega
    have e0:=((aL hb1).1 _ 0 lz).trans c0;have e1:=((aL hb1).1 _ 1 lz).trans c1;have h0:=((aL hb1).2 _ 0 lz).trans u0;have h1:=((aL hb1).2 _ 1 lz).trans u1;have zp:=((aL hb1).1 _ 0 lp).trans yp;clear hb1 c0 c1 u0 u1 yp y0 y1 y2 y3 y4 y5 y6;rcases hcase with⟨rfl,hsn,Ik⟩|⟨rfl,rfl,rfl,rfl,yM⟩
    .have aeU:=ah hsn;clear hsn
     have Rq:=ah Ik;clear Ik;go_wp2;try rw[Exit.noGoto_ret]
     obtain⟨Wf,iq⟩:∃Wf,Hid (Wf=(z1.setCell ⟨w.heap.size+1+1,0,none⟩ (.int .i64 p)).setCell ⟨w.heap.size+1+1,1,none⟩ (.slice A r.length c)):=⟨_,rfl⟩;rw[<-iq.out];obtain⟨g0,g1,lF⟩:=jw e0 e1 iq.out;refine bodyPost_ret (v:=.tuple #[.agg #[.int .i64 p,.slice A r.length c],.int .i64 0]) (by simp[results,results54,go_sem,g0,g1]) rfl ⟨p,A,c,r,0,rfl,?_,.inl ⟨rfl,rfl,?_,HX.out,Ub.out,?_⟩⟩
     .exact(HB.out.trans (hpz.mono HB.out.size)).trans (lF.below (by have:=hpz.size;have:=HB.out.size;omega) (λk hk=>by omega))
     .exact(aeU.out.kX lF (λk hk=>by omega)).mono HB.out.size
     .rw[<-Wi.out];exact Rq.out
    .have Ql:=ah yM;clear yM
     go_wp2;try rw[Exit.noGoto_ret]
     obtain⟨Wf,iq⟩:∃Wf,Hid (Wf=(z1.setCell ⟨w.heap.size+1+1,0,none⟩ (.int .i64 0)).setCell ⟨w.heap.size+1+1,1,none⟩ (.slice none 0 0)):=⟨_,rfl⟩;rw[<-iq.out];obtain⟨g0,g1,lF⟩:=jw e0 e1 iq.out;refine bodyPost_ret (v:=.tuple #[.agg #[.int .i64 0,.slice none 0 0],.int .i64 3]) (by simp[results,results54,go_sem,g0,g1]) rfl ⟨0,none,0,[],3,rfl,?_,.inr ⟨by decide,rfl,rfl,rfl,rfl,.inr ⟨HX.out,.inr ⟨rfl,?_⟩⟩⟩⟩
     .exact(HB.out.trans (hpz.mono HB.out.size)).trans (lF.below (by have:=hpz.size;have:=HB.out.size;omega) (λk hk=>by omega))
     .rw[<-Wi.out];exact Ql.out
theorem Wu(v:CV)(C:au)(p x:Int)(sv:SV)(b:List ak)(w:World)(hC:bO w v C)(hS:iJ w sv b)(hO:∀s∈b,aV C s)(hT:Tab w)(hl:b.length<=1000):Calls prog 54 #[v.val C,.agg #[.int .i64 p,.slice sv.A b.length sv.c],.int .i64 x] w (tC p (nR C p x b) (j5 C p x b) w):=by
 rcases Decidable.em (x= -1)with h1|h1
 .subst h1;exact SG v C p sv b w hC hS hO hT hl
 .rcases Decidable.em (0<=x/\x<C.acts.length)with h2|h2
  .exact Wt v C p x sv b w hC hS hO hT hl h2
  .exact Ws v C p x sv b w hC (λh=>h.elim h1 h2)
end
section
open Go.RowKit Go.Shelf Tryz
end
open Go.RowKit Go.Shelf Tryz
inductive fT (C:au) (p:Int):List Int->List ak->Prop
 |nil {r:List ak}:C.mI p->r_ C p [C.first] r->fT C p [] r
 |snoc {l:List Int} {r r':List ak} {x:Int}:fT C p l r->nR C p x r r'->fT C p (l++[x]) r'
def M7(C:au)(p:Int)(l:List Int)(r:List ak):Prop:=l.length<=4000/\fT C p l r
def Ut(C:au)(p:Int)(l:List Int)(er:Int):Prop:=
 Cm C p er\/(er=3/\4000<l.length)\/∃(k:Nat)(r:List ak)(x:Int),l[k]?=some x/\fT C p (l.take k) r/\j5 C p x r er
theorem fT.clo{C:au}{p:Int}{l:List Int}{r:List ak}(h:fT C p l r):∃b,r_ C p b r:=by
 cases h with
 |nil _ h=>exact⟨_,h⟩
 |snoc _ h=>exact⟨_,h.2.2⟩
theorem aiu{W:World}{g:Nat}{a b:Value}{t:TypeId}(h:W.heap[g]?=some (.cells #[a,b] t (0,0))):W.cell? ⟨g,0,none⟩=some a/\W.cell? ⟨g,1,none⟩=some b/\W.frozen? ⟨g,0,none⟩=false/\W.frozen? ⟨g,1,none⟩=false:=
 ⟨(aK W _ 0 _ _ _ h).trans rfl,(aK W _ 1 _ _ _ h).trans rfl,by simp[World.frozen?,h],by simp[World.frozen?,h]⟩
theorem ZC{W:World}{g:Nat}{a b x y:Value}{t:TypeId}(h:W.heap[g]?=some (.cells #[a,b] t (0,0))):((W.setCell ⟨g,0,none⟩ x).setCell ⟨g,1,none⟩ y).heap[g]?=some (.cells #[x,y] t (0,0)):=by
 have h1:=heap_setCell_same (i:=0) h x;have h2:=heap_setCell_same (i:=1) h1 y;rw[h2];rfl
theorem Wv(v:CV)(C:au)(p:Int)(lv:SV)(l:List Int)(w:World)(hC:bO w v C)(hV:At w 1 lv.A l.length lv.c (aZ l))(hT:Tab w):Calls prog 27 #[v.val C,.int .i64 p,.slice lv.A l.length lv.c] w (tC p (M7 C p l) (Ut C p l) w):=by
 obtain⟨⟨dV,dW⟩,⟨dX,dY⟩,⟨fB,dH⟩,⟨eZ,dM⟩,⟨dQ,dR⟩⟩:=v;obtain⟨lA,lc⟩:=lv;have hlx:l.length<=9223372036854775807:=nZ hV;have HC:=ah hC;clear hC;have HV:=ah hV;clear hV;have HT:=ah hT;clear hT;simp only[CV.val,CV.cells];go_enter func27,ntmps27;go_upto_region 1 with(fail)
 generalize hW0:World.alloc _ _=W0;obtain⟨HB,hh0,gG⟩:=F5 hW0;clear hW0;obtain⟨iC,iD,iI,iy,iP,jc,jA⟩:=CS hh0;clear hh0;obtain⟨jM,jY⟩:=Ww gG;have J3:=ou (i:=0) gG;have J4:=ou (i:=1) gG;have hl1:=aB gG;clear gG;change Code.wp _ _ _ _ (Bl.val (⟨W0,aC _ _⟩:Bl W0));generalize(⟨W0,aC _ _⟩:Bl W0)=s0;have HMS:Hid (∀z:Bl W0,Calls prog 53 #[.agg #[.int .i64 C.aF,.slice dV C.aj.length dW,.slice dX C.units.length dY,.slice fB C.acts.length dH,.slice eZ C.clauses.length dM,.int .i64 C.days,.slice dQ C.off.length dR],.int .i64 p] z.val (tC p (λr=>C.mI p/\r_ C p [C.first] r) (Cm C p) z.val)):=λz=>Rs (⟨⟨dV,dW⟩,⟨dX,dY⟩,⟨fB,dH⟩,⟨eZ,dM⟩,⟨dQ,dR⟩⟩:CV) C p z.val (HC.out.below (av HB.out z.prop)) (HT.out.below (av HB.out z.prop));go_wp2_with (go_at_call 53;refine(HMS.out _).mono ?_;rintro e z1 ⟨q,A,c,r,er,rfl,hb1,hcase⟩;refine Hid.out ?_);refine ah ?_;obtain⟨zb,Io⟩:∃zb:Bl W0,Hid (Below zb.val.heap.size zb.val z1/\((er=0/\q=p/\aW zb.val.heap.size z1 ⟨A,c⟩ r/\C.mI p/\r_ C p [C.first] r)\/(er≠0/\q=0/\A=none/\c=0/\r=[]/\Cm C p er))):=⟨_,hb1,hcase⟩;clear hb1 hcase;go_upto_region 2 with(fail)
 obtain⟨Wa,ow⟩:∃Wa,Hid (Wa=z1.alloc (.cells #[.int .i64 q,.slice A r.length c] 67)):=⟨_,rfl⟩;rw[<-ow.out];have hba:Below z1.heap.size z1 Wa:=by rw[ow.out];exact aJ (aC _ _) _
 have hax:Wa.heap[z1.heap.size]?=some (.cells #[.int .i64 q,.slice A r.length c] 67 (0,0)):=by rw[ow.out];exact bK z1 _
 have HPZ:Hid (Below W0.heap.size W0 z1):=av zb.prop Io.out.1;have tL:Hid (Below W0.heap.size W0 Wa):=av HPZ.out hba;have zD:=ah hax;clear hax;obtain⟨bx,hbx⟩:∃bx,bx=z1.heap.size:=⟨_,rfl⟩;have hbl:W0.heap.size<=bx:=by rw[hbx];exact HPZ.out.size
 rw[<-hbx];rw[<-hbx]at zD;have WO:=ah hba;clear hba;clear hbx;cases q1:(er==0)with
 |false=>
  have qn:¬(er=0):=by rw[beq_eq_false_iff_ne]at q1;exact q1
  have c0:=jM ⟨Wa,tL.out⟩;have c1:=jY ⟨Wa,tL.out⟩;have u0:=J3 ⟨Wa,tL.out⟩;have u1:=J4 ⟨Wa,tL.out⟩;simp only at c0 c1 u0 u1;have HER:Hid (Cm C p er):=by
   rcases Io.out.2 with⟨e1,_⟩|⟨_,_,_,_,_,e6⟩
   .exact absurd e1 qn
   .exact e6
  go_wp2;obtain⟨Wf,iq⟩:∃Wf,Hid (Wf=(Wa.setCell ⟨w.heap.size+1,0,none⟩ (.int .i64 0)).setCell ⟨w.heap.size+1,1,none⟩ (.slice none 0 0)):=⟨_,rfl⟩;rw[<-iq.out];obtain⟨g0,g1,lF⟩:=jw c0 c1 iq.out;refine bodyPost_ret (v:=.tuple #[.agg #[.int .i64 0,.slice none 0 0],.int .i64 er]) (by simp[results,results27,go_sem,g0,g1]) rfl ⟨0,none,0,[],er,rfl,?_,.inr ⟨qn,rfl,rfl,rfl,rfl,.inl HER.out⟩⟩;exact(HB.out.trans (tL.out.mono HB.out.size)).trans (lF.below (by have:=tL.out.size;have:=HB.out.size;omega) (λk hk=>by omega))
 |true=>
  obtain rfl:er=0:=by rw[beq_iff_eq]at q1;exact q1
  obtain⟨HQ,qD,U7⟩:Hid (q=p)/\Hid (aW W0.heap.size Wa ⟨A,c⟩ r)/\Hid (fT C p (l.take 0) r):=by
   rcases Io.out.2 with⟨_,e2,e3,e4,e5⟩|⟨e1,_⟩
   .exact⟨e2,(e3.below WO.out).mono zb.prop.size,.nil e4 e5⟩
   .exact absurd rfl e1
  have hq:=HQ.out;subst hq;clear HQ q1 Io;by_cases h4:4000<l.length
  .have c0:=jM ⟨Wa,tL.out⟩
   have c1:=jY ⟨Wa,tL.out⟩;have u0:=J3 ⟨Wa,tL.out⟩;have u1:=J4 ⟨Wa,tL.out⟩;simp only at c0 c1 u0 u1;go_wp2;obtain⟨Wf,iq⟩:∃Wf,Hid (Wf=(Wa.setCell ⟨w.heap.size+1,0,none⟩ (.int .i64 0)).setCell ⟨w.heap.size+1,1,none⟩ (.slice none 0 0)):=⟨_,rfl⟩;rw[<-iq.out];obtain⟨g0,g1,lF⟩:=jw c0 c1 iq.out;refine bodyPost_ret (v:=.tuple #[.agg #[.int .i64 0,.slice none 0 0],.int .i64 3]) (by simp[results,results27,go_sem,g0,g1]) rfl ⟨0,none,0,[],3,rfl,?_,.inr ⟨by decide,rfl,rfl,rfl,rfl,.inr (.inl ⟨rfl,h4⟩)⟩⟩;exact(HB.out.trans (tL.out.mono HB.out.size)).trans (lF.below (by have:=tL.out.size;have:=HB.out.size;omega) (λk hk=>by omega))
  .go_wp2
   go_loopg [28,9] l.length (λgk v28 v9 wr=>∃(k:Nat)(r:List ak)(A:Option Addr)(c:Nat),gk=l.length - k/\k<=l.length/\v28= .int .i64 k/\v9= .int .i64 0/\Hid (fT C q (l.take k) r)/\Hid (wr.heap[bx]?=some (.cells #[.int .i64 q,.slice A r.length c] 67 (0,0)))/\Hid (aW W0.heap.size wr ⟨A,c⟩ r)/\Hid (Below W0.heap.size W0 wr))
   case atStart=>exact⟨0,r,A,c,rfl,aU _,rfl,rfl,U7,zD,qD,tL⟩
   case round=>
    clear U7 zD qD tL WO ow;obtain⟨k,r,A,c,eO,hk,rfl,rfl,U7,zD,qD,HW⟩:=hrel;have iw:=ah eO;clear eO;obtain⟨b0,b1,b2,b3⟩:=aiu zD.out;by_cases hlt:k<l.length
    .obtain⟨x,hx⟩:∃x,l[k]?=some x:=⟨_,aS hlt⟩
     obtain⟨tb,Mg,hTA,_,htc⟩:=(HV.out.below (by omega) (av HB.out HW.out)).1.form (by omega) (by omega);subst hTA;have ct:wr.cell? ⟨tb,Mg+k,none⟩=some (.int .i64 x):=by
      rw[htc k (by omega),aZ,gK,hx];rfl
     have Uy:=ah hx;have J2:=ah (take_snoc' hx);clear hx htc;have k0:(0:Int)<=(k:Int):=by omega
     have k1:(k:Int)<(l.length:Int):=by omega
     have al9:=aB zD.out;have HAF:Hid (Calls prog 54 #[.agg #[.int .i64 C.aF,.slice dV C.aj.length dW,.slice dX C.units.length dY,.slice fB C.acts.length dH,.slice eZ C.clauses.length dM,.int .i64 C.days,.slice dQ C.off.length dR],.agg #[.int .i64 q,.slice A r.length c],.int .i64 x] wr (tC q (nR C q x r) (j5 C q x r) wr)):=by
      obtain⟨b,Ik⟩:=U7.out.clo;exact Wu (⟨⟨dV,dW⟩,⟨dX,dY⟩,⟨fB,dH⟩,⟨eZ,dM⟩,⟨dQ,dR⟩⟩:CV) C q x ⟨A,c⟩ r wr (HC.out.below (av HB.out HW.out)) qD.out.at Ik.ok (HT.out.below (av HB.out HW.out)) (by have:=Ik.few;omega)
     have y0:=iC ⟨wr,HW.out⟩;have y1:=iD ⟨wr,HW.out⟩;have y2:=iI ⟨wr,HW.out⟩;have y3:=iy ⟨wr,HW.out⟩;have y4:=iP ⟨wr,HW.out⟩;have y5:=jc ⟨wr,HW.out⟩;have y6:=jA ⟨wr,HW.out⟩;simp only at y0 y1 y2 y3 y4 y5 y6;go_wp2_with (go_at_call 54;refine HAF.out.mono ?_;rintro e z2 ⟨q',A',c',r',Ki,rfl,hb2,hcase⟩;refine Hid.out ?_);refine ah ?_;have HCS:=ah hcase;clear hcase;have HB2:=ah hb2;clear hb2;have Y4:Hid (z2.heap[bx]?=some (.cells #[.int .i64 q,.slice A r.length c] 67 (0,0))):=(HB2.out.block bx al9).trans zD.out;clear b0 b1 b2 b3 y0 y1 y2 y3 y4 y5 y6 ct;obtain⟨b0,b1,b2,b3⟩:=aiu Y4.out;have aiv:Hid (Below W0.heap.size W0 z2):=av HW.out HB2.out;go_upto_region 10 with(fail)
     obtain⟨Wb,yC⟩:∃Wb,Hid (Wb=(z2.setCell ⟨bx,0,none⟩ (.int .i64 q')).setCell ⟨bx,1,none⟩ (.slice A' r'.length c')):=⟨_,rfl⟩;rw[<-yC.out];have al_:Hid (Wb.heap[bx]?=some (.cells #[.int .i64 q',.slice A' r'.length c'] 67 (0,0))):=by
      show _=_;rw[yC.out];exact ZC Y4.out
     have HUB:Hid (aG (λk=>k=bx) z2 Wb):=(jw b0 b1 yC.out).2.2;have HPB:Hid (Below W0.heap.size W0 Wb):=aiv.out.trans (HUB.out.below aiv.out.size (λk hk=>by omega));clear b0 b1 b2 b3;cases q1:(Ki==0)with
     |false=>
      have qn:¬(Ki=0):=by rw[beq_eq_false_iff_ne]at q1;exact q1
      have c0:=jM ⟨Wb,HPB.out⟩;have c1:=jY ⟨Wb,HPB.out⟩;have u0:=J3 ⟨Wb,HPB.out⟩;have u1:=J4 ⟨Wb,HPB.out⟩;simp only at c0 c1 u0 u1;have HER:Hid (j5 C q x r Ki):=by
       rcases HCS.out with⟨e1,_⟩|⟨_,_,_,_,_,e6⟩
       .exact absurd e1 qn
       .exact e6
      go_wp2;try rw[Exit.noGoto_ret]
      obtain⟨Wf,iq⟩:∃Wf,Hid (Wf=(Wb.setCell ⟨w.heap.size+1,0,none⟩ (.int .i64 0)).setCell ⟨w.heap.size+1,1,none⟩ (.slice none 0 0)):=⟨_,rfl⟩;rw[<-iq.out];obtain⟨g0,g1,lF⟩:=jw c0 c1 iq.out;refine bodyPost_ret (v:=.tuple #[.agg #[.int .i64 0,.slice none 0 0],.int .i64 Ki]) (by simp[results,results27,go_sem,g0,g1]) rfl ⟨0,none,0,[],Ki,rfl,?_,.inr ⟨qn,rfl,rfl,rfl,rfl,.inr (.inr ⟨k,r,x,Uy.out,U7.out,HER.out⟩)⟩⟩;exact(HB.out.trans (HPB.out.mono HB.out.size)).trans (lF.below (by have:=HPB.out.size;have:=HB.out.size;omega) (λk hk=>by omega))
     |true=>
      obtain rfl:Ki=0:=by rw[beq_iff_eq]at q1;exact q1
      obtain⟨F8,ama,HAO⟩:Hid (q'=q)/\Hid (aW W0.heap.size Wb ⟨A',c'⟩ r')/\Hid (nR C q x r r'):=by
       rcases HCS.out with⟨_,e2,e3,e4⟩|⟨e1,_⟩
       .exact⟨e2,(e3.kX HUB.out (λk hk=>by omega)).mono HW.out.size,e4⟩
       .exact absurd rfl e1
      have hq:=F8.out;subst hq;have amb:Hid (fT C q' (l.take (k+1)) r'):=by
       show fT _ _ _ _;rw[J2.out];exact .snoc U7.out HAO.out
      clear F8 q1;go_wp2
      go_roundg (l.length - (k+1))
      case measure=>rw[iw.out];omega
      case rel=>exact⟨k+1,r',A',c',rfl,by omega,by go_num,rfl,amb,al_,ama,HPB⟩
    .obtain rfl:k=l.length:=by omega
     have HWL:Hid (M7 C q l r):=⟨by omega,by have:=U7.out;rw[iG]at this;exact this⟩;have c0:=jM ⟨wr,HW.out⟩;have c1:=jY ⟨wr,HW.out⟩;have u0:=J3 ⟨wr,HW.out⟩;have u1:=J4 ⟨wr,HW.out⟩;simp only at c0 c1 u0 u1;go_wp2;try rw[Exit.noGoto_ret]
     obtain⟨Wf,iq⟩:∃Wf,Hid (Wf=(wr.setCell ⟨w.heap.size+1,0,none⟩ (.int .i64 q)).setCell ⟨w.heap.size+1,1,none⟩ (.slice A r.length c)):=⟨_,rfl⟩;rw[<-iq.out];obtain⟨g0,g1,lF⟩:=jw c0 c1 iq.out;refine bodyPost_ret (v:=.tuple #[.agg #[.int .i64 q,.slice A r.length c],.int .i64 0]) (by simp[results,results27,go_sem,g0,g1]) rfl ⟨q,A,c,r,0,rfl,?_,.inl ⟨rfl,rfl,?_,HWL.out⟩⟩
     .exact(HB.out.trans (HW.out.mono HB.out.size)).trans (lF.below (by have:=HW.out.size;have:=HB.out.size;omega) (λk hk=>by omega))
     .exact(qD.out.kX lF (λk hk=>by omega)).mono HB.out.size
end Go.Proofs.YtpmdedcnbockhaaGreatDoor

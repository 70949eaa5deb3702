/-
  CtJ; CtK; CtL; CtM
-/
import Derived.Test.YtpmdedcnbockhaaGreatDoorP18
import Derived.Laws.EntriesVeiled
import Derived.Test.YtpmdedcnbockhaaGreatDoorP25
import Derived.Test.YtpmdedcnbockhaaGreatDoorP26
set_option maxRecDepth 100000
set_option maxHeartbeats 8000000
namespace Go.Proofs.YtpmdedcnbockhaaGreatDoor
section
open Go.RowKit Go.Shelf
theorem Ol(x:Int):(44:UInt8)∉Lib.itoa x:=qF (by decide) (.inl (by decide))
def kE(l:List Int):List UInt8:=l.flatMap (λx=>Lib.itoa x++[44])
theorem Q6(l:List Int)(x:Int):kE (l++[x])=kE l++Lib.itoa x++[44]:=by simp[kE]
theorem Kg(l:List Int)(hl:∀x∈l, -9223372036854775808<=x/\x<=9223372036854775807):(kE l).length<=22*l.length:=by
 induction l with
 |nil=>simp[kE]
 |cons x l ih=>
  have h1:=ih (λy hy=>hl y (kT _ hy));have h2:=Lib.itoa_length_le _ (hl x (by simp)).1 (hl x (by simp)).2;show(Lib.itoa x++[44]++kE l).length<=_;simp only[lS,iy,jJ];omega
theorem Kh:∀{l m:List Int},kE l=kE m->l=m
 |[],[],_=>rfl
 |[],y::m,h=>by
  have h:([]:List UInt8)=Lib.itoa y++[44]++kE m:=h;simp at h
 |x::l,[],h=>by
  have h:Lib.itoa x++[44]++kE l=([]:List UInt8):=h;simp at h
 |x::l,y::m,h=>by
  have h:Lib.itoa x++[44]++kE l=Lib.itoa y++[44]++kE m:=h;rw[wE,wE]at h;have h1:=kR (Ol x) (Ol y) h;rw[oP h1.1,Kh h1.2]
theorem XZ(l:List Int)(A:Option Addr)(c:Nat)(w:World)(hA:At w 1 A l.length c (aR l))(hr:∀x∈l, -9223372036854775808<=x/\x<=9223372036854775807)(hl:l.length<=100000)(ht:Tab w):
 Calls Tryz.prog 65 #[.slice A l.length c] w (dx (.string ⟨(kE l).toArray⟩) w):=by
 have HA:=ah hA;clear hA;have HR:=ah hr;clear hr;have HT:=ah ht.afd;clear ht;go_enter Tryz.func65,Tryz.ntmps65;go_wp2
 go_loopw [3,8] (λv3 i wr=>∃k:Nat,k<=l.length/\i= .int .i64 k/\Hid (Bytes w.heap.size wr v3 (kE (l.take k)))/\Hid (Wrote w.heap.size w wr)) (λ_ i _=>l.length - (intOf i).toNat)
 case atStart=>exact⟨0,aV _,rfl,Bytes.nil _ _,Wrote.refl _ _⟩
 case round=>
  obtain⟨k,hk,rfl,HO,HW⟩:=hrel;by_cases hlt:k<l.length
  .obtain⟨x,hx⟩:∃x,l[k]?=some x:=⟨_,aT hlt⟩
   have hmem:=cK hx;obtain⟨hx0,hx1⟩:=HR.out _ hmem;have HAw:Hid (At wr 1 A l.length c (aR l)):=HA.out.below (by omega) HW.out.below;obtain⟨b,off,hbA,hbl,hc0⟩:=HAw.out.1.form (by omega) (by omega);subst hbA;have e0:wr.cell? ⟨b,off+k,none⟩=some (.int .i64 x):=(hc0 k (by omega)).trans (gQ hx);have hwl:=Kg (l.take k) (λy hy=>HR.out y (List.mem_of_mem_take hy));rw[p9]at hwl;have HWT:Hid (kE (l.take (k+1))=kE (l.take k)++Lib.itoa x++[44]):=by
    show _=_;rw[Dt,hx,<-Q6];rfl
   have k0:(k:Int)<(l.length:Int):=by omega
   have hsz:=HW.out.below.size;have hl9:l.length<=9223372036854775807:=by omega
   clear hc0 hx hmem;go_wp2_with (first|(go_at_call 80;refine(tO HO.out x hx0 hx1 (by omega) (by omega) (HT.out.on HW.out.below)).mono ?_;rintro e w1 ⟨v1,rfl,h1,h2⟩;refine Hid.out ?_));refine ah ?_;have Nv:=ah h1;clear h1;have HW1:=ah (HW.out.trans h2);clear h2;have hsz1:=HW1.out.below.size;have hil:=Lib.itoa_length_le _ hx0 hx1;go_wp2_with (at_builtin;refine wpList_append_byte rfl _ _ rfl w.heap.size _ _ rfl Nv.out 44 44 rfl rfl (by rw[lS];omega) (by omega) ?_;intro v2 w2 h1 h2;refine Hid.out ?_);refine ah ?_;have Ah:=ah h1;clear h1;have HW2:=ah (HW1.out.trans h2);clear h2;go_wp2
   go_roundw
   case rel=>exact⟨k+1,by omega,by go_num,by show Bytes _ _ _ _;rw[HWT.out];exact Ah.out,HW2⟩
   case measure=>simp[intOf];omega
  .obtain rfl:k=l.length:=by omega
   rw[gV]at HO;have Qu:=ah HW.out.below;obtain⟨tx,htx⟩:∃tx,tx=kE l:=⟨_,rfl⟩;rw[<-htx]at HO;have Vw:=ah htx;clear htx;have hO:=HO.out;rcases hO.2 with⟨h1,h0⟩|⟨g,cap,cur,rfl,_,_,_,_,_,_⟩
   .have e0:tx=[]:=Dr h0
    subst h1 e0;have hcv:(convert 101 9 (.slice none 0 0)).run Tryz.prog wr= .ok (.string ⟨#[]⟩) wr:=by
     rw[run_convert_bytes_string wr 101 9 5 none 0 0 Tryz.underlying101 Tryz.underlying5 Tryz.underlying9];rfl
    go_wp2;go_ret;rw[<-Vw.out];exact⟨rfl,Qu.out⟩
   .have hcv:=run_convert_bytes_back (P:=Tryz.prog) wr 101 9 5 ⟨g,0,none⟩ cap tx Tryz.underlying101 Tryz.underlying5 Tryz.underlying9 (λj hj=>World.ownsRow.cells hO (g:=g) rfl j _ (by simp[Lib.byteCells,hj]))
    go_wp2;go_ret;rw[<-Vw.out];exact⟨rfl,Qu.out⟩
end
section
open Go.RowKit Go.Shelf
attribute [local go_sem] Oper.semAt_some
def COk(n:Nat)(w0 b:Nat)(pre:List (Nat×List Int))(x:Nat×List Int)(V:World):Prop:=pre.length<400/\x.2.length=n/\Own V 3 x.1 (aR x.2)/\b<=V.heap.size/\w0<=x.1/\x.1<b
def agr(n:Nat)(w0 b:Nat)(pre:List (Nat×List Int))(x:Nat×List Int)(V:World):Prop:=pre.length=400/\x.2.length=n/\Own V 3 x.1 (aR x.2)/\b<=V.heap.size/\w0<=x.1/\x.1<b
theorem H_(n:Nat):aR (List.replicate n 0)=(madeCells #[Value.int .i64 0] n).toList:=by
 apply kX;intro j;simp[aR,madeCells];rcases iA j n with h|h
 .simp[h,Nat.mod_one]
 .simp[h]
theorem LC(s:Nat)(w:World):Calls Tryz.prog 64 #[.pointer (some ⟨s,0,none⟩)] w (λe w'=>e= .returned (.func (.func 100) #[] #[.pointer (some ⟨w.heap.size,0,none⟩)])/\w'=w.alloc (.cells #[.pointer (some ⟨s,0,none⟩)] 122)):=by
 go_enter Tryz.func64,Tryz.ntmps64;go_wp2;go_ret;exact⟨rfl,rfl⟩
theorem LD{X:SX}{P:List (Nat×Nat)}{lo hi:Nat->Int}{A:Option Addr}{oc:Nat}{Bs:Nat}(n:Nat)(hn1:1<=n)(I:Nat->List (Nat×List Int)->World->Prop)(W:World)(hS:aP W X lo hi A oc [])(hBs:Own W 122 Bs [.pointer (some ⟨X.sb,0,none⟩)])(hB:O9 X.n lo hi P)(hrg:∀i,i<X.n-> -1000000<=lo i/\hi i<=1000000)(hLb:X.Lb=nK P X.n P.length)(hLa:X.La=nL P X.n P.length)(hn:X.n<=400)(hP:P.length<=4000):
 WY Fence.wide n Tryz.prog 100 #[.pointer (some ⟨Bs,0,none⟩)] (λ(_:Nat)(x:Nat×List Int)=>#[.slice (some ⟨x.1,0,none⟩) X.n X.n]) (λb=>Po X (W.heap.size,b)) (λb=>YQ X Bs (W.heap.size,b)) I (COk X.n W.heap.size) (agr X.n W.heap.size)
  (λxs=>j_ X.n lo hi P (xs.map Prod.snd)/\xs.length<=400) (λ_=>∃Y,j_ X.n lo hi P Y/\400<Y.length) W:=by
 intro l J JL Qg hJ0 hJm ags hY hYL;have KV:=ah hJ0;clear hJ0;have HJM:=ah hJm;clear hJm;have ajE:=ah ags;clear ags;have HY:=ah hY;clear hY;have HYL:=ah hYL;clear hYL;have HS:=ah hS;clear hS;have Pb:=ah hBs;clear hBs;have HB:=ah hB;clear hB;have SG:=ah hrg;clear hrg;have HLB:=ah hLb;clear hLb;have ZV:=ah hLa;clear hLa;clear Qg;have c1:W.cell? ⟨Bs,0,none⟩=some (.pointer (some ⟨X.sb,0,none⟩)):=Pb.out.cell rfl;have s0:W.cell? ⟨X.sb,0,none⟩=some (.slice (some ⟨X.bb,0,none⟩) X.n X.n):=HS.out.box.cell rfl;have l1:Bs<W.heap.size:=Pb.out.lt;have l2:X.sb<W.heap.size:=HS.out.box.lt;refine callsIn_of_wp Tryz.func100 rfl trivial ?_ rfl;simp only[Tryz.ntmps100,qU,iy,jJ,Nat.reduceAdd,Nat.reduceSub,rX,rY,r_,rZ,mI,r9]
 gi_upto_region 1 with(fail)
 generalize hW0:World.alloc _ _=W0;obtain⟨HB0,hh0⟩:=bx1 hW0;have HYB:Hid (Own W0 181 W.heap.size [.func (.yield l) #[] #[]]):=⟨[],by rw[b_];exact hh0⟩;have hs0:W0.heap.size=W.heap.size+1:=by rw[<-hW0,aM]
 clear hW0 hh0;have c2:W0.cell? ⟨Bs,0,none⟩=some (.pointer (some ⟨X.sb,0,none⟩)):=(HB0.out.cell (p:=⟨Bs,0,none⟩) l1).trans c1;have s2:W0.cell? ⟨X.sb,0,none⟩=some (.slice (some ⟨X.bb,0,none⟩) X.n X.n):=(HB0.out.cell (p:=⟨X.sb,0,none⟩) l2).trans s0;obtain⟨ip,hip,hpz,hps,hpb⟩:=info_parts' (P:=Tryz.prog) (t:=3) (z:=some (.int .i64 0)) (s:=1) (b:=8) (by kernel_rfl);have hmk:=run_makeSlice (P:=Tryz.prog) (w:=W0) 22 3 ip _ Tryz.underlying22 hip hpz .i64 .i64 (X.n:Int) (X.n:Int) (by omega) (by omega) (by rw[hps];simp;omega) (by rw[hpb];omega) (by omega);simp only[su,hps]at hmk;have agt:=ah hs0;clear hs0
 gi_upto_region 3 with(fail)
 obtain⟨nb,hnb⟩:∃nb,nb=W0.heap.size:=⟨_,rfl⟩;rw[<-hnb];generalize hW1:World.alloc W0 _=W1;have hb1:Below W0.heap.size W0 W1:=by rw[<-hW1];exact aK (aD _ _) _
 have ho1:Own W1 3 nb (aR (List.replicate X.n 0)):=by
  refine⟨[],?_⟩;rw[b_,H_,Array.toArray_toList,<-hW1,hnb];exact bC W0 _
 have hs1:W1.heap.size=nb+1:=by rw[<-hW1,aM,hnb]
 clear hW1;generalize hW2:World.alloc W1 _=W2;have hb2:Below W1.heap.size W1 W2:=by rw[<-hW2];exact aK (aD _ _) _
 have ho2:Own W2 22 (nb+1) [.slice (some ⟨nb,0,none⟩) X.n X.n]:=⟨[],by rw[<-hW2,<-hs1];exact bC W1 _⟩;have hs2:W2.heap.size=nb+1+1:=by rw[<-hW2,aM,hs1]
 clear hW2;generalize hW3:World.alloc W2 _=W3;have hb3:Below W2.heap.size W2 W3:=by rw[<-hW3];exact aK (aD _ _) _
 have ho3:Own W3 92 (nb+1+1) [.nilFunc]:=⟨[],by rw[<-hW3,<-hs2];exact bC W2 _⟩;have hs3:W3.heap.size=nb+1+1+1:=by rw[<-hW3,aM,hs2]
 clear hW3;have Nv:=ah ((ho1.below hb2).below hb3);have Ah:=ah (ho2.below hb3);have Xk:=ah ho3;have HB3:Hid (Below W.heap.size W W3):=ay (ay (ay HB0.out hb1) hb2) hb3;have ajF:=ah (((HYB.out.below hb1).below hb2).below hb3);have IJ:=ah hs3;have Xv:Hid (nb=W.heap.size+1):=by show _=_;rw[hnb];exact agt.out
 clear hb1 hb2 hb3 ho1 ho2 ho3 hs1 hs2 hs3 hnb hmk c1 c2 s0 s2 HYB agt hip hpz hps hpb HB0;have v0:=Xk.out.cell (i:=0) rfl;have f0:=Xk.out.frozen 0
 gi_upto_region 4 with(fail)
 generalize hW4:World.setCell _ _ _=W4;have hu:aH (λk=>k=nb+1+1) W3 W4:=by rw[<-hW4];exact(aH.refl (λk=>k=nb+1+1) W3).setCell (p:=⟨nb+1+1,0,none⟩) (.inl rfl) _
 have ho4:Own W4 92 (nb+1+1) [.func (.func 101) #[] #[.pointer (some ⟨nb+1,0,none⟩),.pointer (some ⟨Bs,0,none⟩),.pointer (some ⟨W.heap.size,0,none⟩),.pointer (some ⟨nb+1+1,0,none⟩)]]:=by rw[<-hW4];exact Xk.out.set (i:=0) (by simp) _
 have hnb:=Xv.out;have zU:Hid (Below W.heap.size W W4):=HB3.out.trans (hu.below HB3.out.size (λk hk=>by omega));have hz4:nb+3<=W4.heap.size:=by have:=hu.size;have:=IJ.out;omega
 have hlow:∀v,v∈X.vb\/v∈X.va->∀q,v.ownBlock=some q->q<W.heap.size:=λv hv q hq=>by
  rcases hv with hv|hv
  .exact(HS.out.uQ.low v hv q hq).2.1
  .exact(HS.out.wB.low v hv q hq).2.1
 have HIT:Hid (Dh W4 X Bs (W.heap.size,nb+3) l ⟨nb,W.heap.size,nb+1,nb+1+1⟩):=
  ⟨λk hk=>by simp only at hk⊢;omega,ajF.out.keep hu (by omega),Ah.out.keep hu (by omega),ho4,Pb.out.below zU.out,⟨_,by simp,Nv.out.keep hu (by omega)⟩,hlow,hz4⟩
 have XI:=ah (HS.out.below zU.out);have HJ4:Hid (J (nb+3) [] W4):=KV.out (nb+3) W4 zU.out (by omega);have hYD:E8 X Bs (W.heap.size,nb+3) l nb (λpre V=>J (nb+3) (pre.map (λy=>(nb,y))) V) (λpre V=>JL (nb+3) (pre.map (λy=>(nb,y))) V):=by
  refine⟨λpre x V h hok=>?_,λpre x V h hok=>?_,λpre V V' h hm=>HJM.out _ _ _ _ h hm,λpre V V' h hm=>ajE.out _ _ _ _ h hm⟩
  .have h1:=HY.out (nb+3) (pre.map (λy=>(nb,y))) (nb,x) V h ⟨by rw[eF];exact hok.1,hok.2.1,hok.2.2.1,hok.2.2.2,by simp only;omega,by simp only;omega⟩
   rw[show pre.map (λy=>(nb,y))++[(nb,x)]=(pre++[x]).map (λy=>(nb,y)) by simp]at h1;exact YieldAt.depth rfl h1
  .have h1:=HYL.out (nb+3) (pre.map (λy=>(nb,y))) (nb,x) V h ⟨by rw[eF];exact hok.1,hok.2.1,hok.2.2.1,hok.2.2.2,by simp only;omega,by simp only;omega⟩
   rw[show pre.map (λy=>(nb,y))++[(nb,x)]=(pre++[x]).map (λy=>(nb,y)) by simp]at h1;exact YieldAt.depth rfl h1
 have hv:=U1 (I:=⟨nb,W.heap.size,nb+1,nb+1+1⟩) (ah hYD) HLB ZV hn hP X.n 0 (by omega) lo hi A oc [] [] W4 XI.out HB.out (λi hi'=>absurd hi' (Nat.not_lt_zero _)) SG.out HIT.out HJ4.out (by simp) (by simp);rw[show(((0:Nat)):Int)=0 from rfl]at hv;have HV:=ah hv;have v4:=ho4.cell (i:=0) rfl;clear hv hYD hlow hz4 hnb ho4 hu hW4 v0 f0;gi_wp2_with (refine⟨trivial,?_⟩;gi_at_call 101;refine(bQ.2 HV.out).mono ?_;rintro e W5 ⟨more,Z,A5,UU,rfl,hz,hsz5,XV,ZW,hs5,hmt,wz⟩;refine Hid.out ?_);refine ah ?_;have HZ:=ah hz;have HMT:=ah hmt;have NW:=ah wz;clear hz hsz5 XV ZW hs5 hmt wz;gi_wp2
 go_end0
 refine⟨⟨_,rfl⟩,nb+3,by have:=Xv.out;omega,?_⟩;cases more with
 |true=>
  obtain⟨h1,h2⟩:=HMT.out rfl;rw[mI]at h1 h2;exact .inl ⟨_,⟨by rw[List.map_map,show(Prod.snd∘λy:List Int=>(nb,y))=id from rfl,List.map_id];exact HZ.out,by rw[eF];exact h1⟩,h2⟩
 |false=>
  obtain⟨h1,Y1,h2⟩:=NW.out rfl;rw[mI]at h1 h2;exact .inr ⟨_,⟨Z,HZ.out,h1⟩,h2⟩
end
section
open Go.RowKit Go.Shelf
def nG(r:List (List Int))(x:List Int):List (List Int):=if x∈r then r else r++[x]
def qm(l:List (List Int)):List (List Int):=l.foldl nG []
theorem zZ(l:List (List Int))(x:List Int):qm (l++[x])=nG (qm l) x:=by unfold qm;rw[t_];rfl
theorem U3(l:List (List Int))(x:List Int):x∈qm l↔x∈l:=by
 induction l using qC with
 |h0=>rfl
 |h1 l a ih=>
  rw[zZ,nG,jZ,dZ];by_cases h:a∈qm l
  .rw[if_pos h,ih]
   constructor
   .exact .inl
   .rintro(h1|rfl)
    .exact h1
    .exact ih.1 h
  .rw[if_neg h,jZ,dZ,ih]
theorem U4(l:List (List Int)):(qm l).length<=l.length:=by
 induction l using qC with
 |h0=>exact bH _
 |h1 l a ih=>
  rw[zZ,nG,lS];split
  .omega
  .rw[lS];simp only[vN];omega
theorem Q7{F:List aB}{D:List Int}{u:Int}{a:Int}(h:a∈gM F D u):a= -1\/∃x∈F,x.act=a:=by
 unfold gM at h;split at h
 .rename_i hc
  obtain⟨d,_,hd⟩:=Aj.1 h;unfold wV at hd;rcases jZ.1 hd with hd|hd
  .obtain⟨r,hr,rfl⟩:=dU.1 hd
   rw[qM,uZ]at hr;obtain⟨i,x,hi,_,rfl⟩:=hr;have hx:=cK hi;exact .inr ⟨x,hx,(Cg hc.2.2.2 hx).symm⟩
  .exact .inl (dZ.1 hd)
 .cases h
theorem U5{F:List aB}{D:List Int}{u:Int}:(gM F D u).length<=F.length+u.toNat:=by
 unfold gM;split
 .rename_i hc
  exact BF hc.1 hc.2.2.2 _
 .simp
def InT(l:List Int):Prop:=(kE l).length<=maxLen
def Ia(l:List Int):Lit:=.string (kE l)
theorem X0(x y:List Int)(_:InT x)(_:InT y)(h:Ia x=Ia y):x=y:=by
 unfold Ia at h;injection h with h
 exact Kh h
theorem agu:Maps.Keyed Tryz.prog 9:=Maps.string_keyed Tryz.underlying9
theorem agv{l:List Int}(hl:InT l):keyOf Tryz.prog 9 (.string ⟨(kE l).toArray⟩)=some (Ia l):=by
 have h:=WideMaps.keyOf_string_mk (P:=Tryz.prog) Tryz.underlying9 (s:=⟨(kE l).toArray⟩) (by unfold InT at hl;simpa [ByteArray.size]using hl);simpa [Ia]using h
def z8(L:List (List Int))(l:List Int):Option Value:=if l∈L then some (.bool true)else none
theorem X3:z8 []=λ_=>none:=by funext l;simp[z8]
theorem U6(L:List (List Int))(x l:List Int):(if l=x then some (Value.bool true)else z8 L l)=z8 (L++[x]) l:=by
 unfold z8;by_cases h:l=x
 .rw[if_pos h,if_pos (by simp[h])]
 .rw[if_neg h]
  by_cases h2:l∈L
  .rw[if_pos h2,if_pos (by simp[h2])]
  .rw[if_neg h2,if_neg (by simp[h,h2])]
theorem Di{w:World}{B:Nat}{e:TypeId}{n c:Nat}{A:Option Addr}{xs:List Value}(h:w.ownsRow B e 1 (.slice A n c) n xs)(h1:∀u∈xs,u.oneCell'=true):At w 1 A n c xs:=by
 have hl:=h.1;rcases rE h with⟨rfl,rfl,rfl⟩|⟨g,rfl,_,ho⟩
 .have e:xs=[]:=Dr (by omega)
  subst e;exact fD _ _
 .refine ho.Cb hl h1 ?_ ?_
  .rcases h.2 with⟨h2,_⟩|⟨_,_,_,h2,_,_,h3,_⟩
   .simp at h2
   .simp only[Value.slice.injEq]at h2;omega
  .rcases h.2 with⟨h2,_⟩|⟨_,_,_,h2,_,_,_,h3,_⟩
   .simp at h2
   .simp only[Value.slice.injEq]at h2;omega
def kU(V:World)(b:Nat)(v:Value)(L:List (List Int)):Prop:=
 ∃ts:List SV,ts.length=L.length/\V.ownsRow b 22 1 v L.length ((L.zip ts).map (λp=>Value.slice p.2.A p.1.length p.2.c))/\∀(i:Nat)(l:List Int)(t:SV),L[i]?=some l->ts[i]?=some t->V.ownsRow b 3 1 (.slice t.A l.length t.c) l.length (aR l)
theorem kU.nil(V:World)(b:Nat):kU V b (.slice none 0 0) []:=⟨[],rfl,World.ownsRow_nil _ _ _ _,λi l t h=>by simp at h⟩
theorem kU.upd{S:Nat->Prop}{V V':World}{b:Nat}{v:Value}{L:List (List Int)}(h:kU V b v L)(hu:aH S V V')(hS:∀(k:Nat)(cs:Array Value)(t:TypeId)(fz:Nat×Nat),b<=k->V.heap[k]?=some (.cells cs t fz)->(t=22\/t=3)->¬S k):kU V' b v L:=by
 obtain⟨ts,h1,h2,h3⟩:=h;refine⟨ts,h1,bX h2 hu (λk hk=>?_),λi l t hl ht=>bX (h3 i l t hl ht) hu (λk hk=>?_)⟩
 .obtain⟨cs,fz,h4⟩:=iD h2 k hk
  exact hS k _ _ _ (h2.lt k hk).1 h4 (.inl rfl)
 .obtain⟨cs,fz,h4⟩:=iD (h3 i l t hl ht) k hk
  exact hS k _ _ _ ((h3 i l t hl ht).lt k hk).1 h4 (.inr rfl)
theorem kU.below{V V':World}{b:Nat}{v:Value}{L:List (List Int)}(h:kU V b v L)(hb:Below V.heap.size V V'):kU V' b v L:=
 h.upd (S:=λ_=>False) ⟨hb.os,hb.tape,hb.output,hb.size,λk hk _=>hb.block k hk⟩ (λ_ _ _ _ _ _ _ h=>h)
theorem kU.form{V:World}{b:Nat}{v:Value}{L:List (List Int)}(h:kU V b v L):∃A c,v= .slice A L.length c/\rJ V ⟨A,c⟩ L:=by
 obtain⟨ts,h1,h2,h3⟩:=h;obtain⟨A,c,rfl⟩:=ownsRow_form h2;refine⟨A,c,rfl,ts,h1,Di h2 (λu hu=>?_),λi l t hl ht=>Di (h3 i l t hl ht) (λu hu=>?_)⟩
 .obtain⟨p,_,rfl⟩:=dU.1 hu
  rfl
 .obtain⟨x,_,rfl⟩:=dU.1 hu
  rfl
theorem kU.nums{V:World}{b:Nat}{A:Option Addr}{c n:Nat}{L:List (List Int)}(h:kU V b (.slice A n c) L):n=L.length/\rJ V ⟨A,c⟩ L:=by
 obtain⟨A',c',e,hn⟩:=h.form;injection e with e1 e2 e3
 subst e1 e2 e3;exact⟨rfl,hn⟩
theorem kU.snoc{V V2:World}{b g c':Nat}{v:Value}{L:List (List Int)}{x:List Int}{t:SV}{ts:List SV}(h1:ts.length=L.length)(h2:V.ownsRow b 22 1 v L.length ((L.zip ts).map (λp=>Value.slice p.2.A p.1.length p.2.c)))
 (h3:∀(i:Nat)(l:List Int)(t:SV),L[i]?=some l->ts[i]?=some t->V.ownsRow b 3 1 (.slice t.A l.length t.c) l.length (aR l))(hx:V.ownsRow b 3 1 (.slice t.A x.length t.c) x.length (aR x))
 (ho:V2.ownsRow b 22 1 (.slice (some ⟨g,0,none⟩) (L.length+1) c') (L.length+1) ((L.zip ts).map (λp=>Value.slice p.2.A p.1.length p.2.c)++[.slice t.A x.length t.c]))(hu:aH (λk=>v.ownBlock=some k) V V2):kU V2 b (.slice (some ⟨g,0,none⟩) (L.length+1) c') (L++[x]):=by
 have hl:(L++[x]).length=L.length+1:=by simp
 have hint:∀{l:List Int}{u:Value},V.ownsRow b 3 1 u l.length (aR l)->V2.ownsRow b 3 1 u l.length (aR l):=λh4=>bX h4 hu (λk hk hs=>by
  obtain⟨cs,fz,h5⟩:=iD h4 k hk;exact cZ h2 h5 (by decide) hs)
 refine⟨ts++[t],by simp[h1],?_,λi l s hi hs=>?_⟩
 .rw[hl,List.zip_append h1.symm,uf]
  exact ho
 .rcases iA i L.length with hi2|hi2
  .rw[lX hi2]at hi
   rw[lX (by omega)]at hs;exact hint (h3 i l s hi hs)
  .have hi3:i<(L++[x]).length:=(aZ.1 hi).1
   have e:i=L.length:=by omega
   subst e;rw[oG (bH _),Nat.sub_self,Al,Option.some.injEq]at hi;rw[oG (by omega),h1,Nat.sub_self,Al,Option.some.injEq]at hs;subst hi hs;exact hint hx
structure CB where
 cb:Nat
 fb:Nat
 ub:Nat
 rr:Nat
 er:Nat
 mb:Nat
 rb:Nat
 nb:Nat
 m:Nat
structure IK(V:World)(B b:Nat)(K:CB)(tv:FV)(ho:Int)(T:List aB)(OO:List aX)(u:Int)(n:Nat)(L:List (List Int)):Prop where
 Q8:Own V 31 K.fb (tv.cells ⟨ho,T,OO⟩)
 ac7:Own V 3 K.ub [.int .i64 u]
 Om:Own V 84 K.rr [.slice none 0 0]
 Oo:Own V 37 K.er [.int .i64 0]
 Dj:Own V 119 K.mb [.map (some K.m)]
 X4:∃v,Own V 84 K.rb [v]/\kU V b v L
 uJ:Own V 3 K.nb [.int .i64 n]
 facts:At V 6 tv.f.A T.length tv.f.c (bE T)
 map:d9 InT 9 Ia V K.m L.length (z8 L)
 fl:0<T.length->∀k off,tv.f.A=some ⟨k,off,none⟩->k<K.m
 ord:K.fb<K.m/\K.ub<K.m/\K.rr<K.m/\K.er<K.m/\K.m<K.mb/\K.mb<K.rb/\K.rb<K.nb/\K.nb<B
theorem Q9{S:Nat->Prop}{w w':World}{size n c:Nat}{A:Option Addr}{xs:List Value}(h:At w size A n c xs)(hs:0<size)(hu:aH S w w')(hS:0<n->∀b off,A=some ⟨b,off,none⟩->¬S b):At w' size A n c xs:=by
 rcases Nat.eq_zero_or_pos n with h0|h0
 .subst h0;exact⟨⟨h.1.1,h.1.2.1,λh=>absurd h (Nat.lt_irrefl 0)⟩,h.2⟩
 .exact uG h hs hu (hS h0)
theorem Own.kG{w w':World}{t:TypeId}{k B:Nat}{cs:List Value}(h:Own w t k cs)(hk:k<B)(hb:Below B w w'):Own w' t k cs:=by
 obtain⟨tl,h⟩:=h;exact⟨tl,(hb.block k hk).trans h⟩
theorem IK.kG{V V':World}{B b:Nat}{K:CB}{tv:FV}{ho:Int}{T:List aB}{OO:List aX}{u:Int}{n:Nat}{L:List (List Int)}(h:IK V B b K tv ho T OO u n L)(hb:Below B V V')(hr:∀v,kU V b v L->kU V' b v L):IK V' B b K tv ho T OO u n L:=by
 obtain⟨v,h1,h2⟩:=h.X4;have lw:=h.ord;refine⟨h.Q8.kG (by omega) hb,h.ac7.kG (by omega) hb,h.Om.kG (by omega) hb,h.Oo.kG (by omega) hb,h.Dj.kG (by omega) hb,⟨v,h1.kG (by omega) hb,hr v h2⟩,h.uJ.kG (by omega) hb,?_,h.map.below (show K.m<B by omega) hb,h.fl,h.ord⟩;exact Q9 h.facts (by omega) (aH.of_below hb) (λh0 k off e hk=>by have:=h.fl h0 k off e;omega)
theorem IK.below{V V':World}{B b:Nat}{K:CB}{tv:FV}{ho:Int}{T:List aB}{OO:List aX}{u:Int}{n:Nat}{L:List (List Int)}(h:IK V B b K tv ho T OO u n L)(hB:B<=V.heap.size)(hb:Below V.heap.size V V'):IK V' B b K tv ho T OO u n L:=
 h.kG (hb.mono hB) (λ_ hr=>hr.below hb)
theorem Po.kG{X:SX}{w0 b:Nat}{V V':World}(h:Po X (w0,b) V V')(hB:X.B<=w0)(hV:X.B<=V.heap.size):Below X.B V V':=
 aH.below h hV (λk hk=>by
  rcases hk with hk|hk
  .have:=hk.1;simp only at this;omega
  .exact hk.1)
theorem IK.mv{X:SX}{w0:Nat}{V V':World}{b:Nat}{K:CB}{tv:FV}{ho:Int}{T:List aB}{OO:List aX}{u:Int}{n:Nat}{L:List (List Int)}(h:IK V X.B b K tv ho T OO u n L)(hm:Po X (w0,b) V V')(hB:X.B<=w0)(hV:X.B<=V.heap.size):IK V' X.B b K tv ho T OO u n L:=
 h.kG (hm.kG hB hV) (λv hr=>hr.upd hm (λk cs t fz hk hc ht hs=>by
  rcases hs with hs|⟨_,cs',t',fz',h1,h2,_⟩
  .have:=hs.2;simp only at this;omega
  .rw[hc]at h1
   injection h1 with h1
   injection h1 with _ h1 _
   subst h1;unfold Dc at h2;rcases ht with rfl|rfl
   .revert h2;decide
   .revert h2;decide))
theorem IK.turn{V V':World}{D B b:Nat}{K:CB}{tv:FV}{ho:Int}{T:List aB}{OO:List aX}{u:Int}{n:Nat}{L:List (List Int)}(h:IK V B b K tv ho T OO u n L)(ht:uH D V V')(hB:B<=D)(hV:B<=V.heap.size):IK V' B b K tv ho T OO u n L:=
 h.kG (aH.below ht hV (λk hk=>by have:=hk.1;omega)) (λv hr=>hr.upd ht (λk cs t fz hk hc _ hs=>by
  obtain⟨_,o,h1,h2⟩:=hs;rw[hc]at h1;cases h1
  cases h2))
theorem IK.round{V V':World}{B b:Nat}{K:CB}{tv:FV}{ho:Int}{T:List aB}{OO:List aX}{u:Int}{n:Nat}{L L':List (List Int)}(h:IK V B b K tv ho T OO u n L)(hu:aH (λk=>k=K.nb\/k=K.m\/k=K.rb\/B<=k) V V')(hn:Own V' 3 K.nb [.int .i64 (n+1:Nat)])
 (hr:∃v,Own V' 84 K.rb [v]/\kU V' b v L')(hm:d9 InT 9 Ia V' K.m L'.length (z8 L')):IK V' B b K tv ho T OO u (n+1) L':=by
 have lw:=h.ord;exact⟨h.Q8.keep hu (by omega),h.ac7.keep hu (by omega),h.Om.keep hu (by omega),h.Oo.keep hu (by omega),h.Dj.keep hu (by omega),hr,hn,Q9 h.facts (by omega) hu (λh0 k off e hk=>by have:=h.fl h0 k off e;omega),hm,h.fl,h.ord⟩
theorem d9.isMap{α:Type}{P:α->Prop}{K:TypeId}{enc:α->Lit}{w:World}{b n:Nat}{g:α->Option Value}(h:d9 P K enc w b n g):∃es c,w.heap[b]?=some (.map es c):=by
 obtain⟨D,⟨es,c,hb,_⟩,_⟩:=h;exact⟨es,c,hb⟩
def RdS(V:World)(K:CB)(b:Nat)(k:Nat):Prop:=k=K.nb\/k=K.m\/k=K.rb\/(b<=k/\∃cs fz,V.heap[k]?=some (.cells cs 22 fz))
theorem IK.kp{X:SX}{w0 Bs:Nat}{V V':World}{b:Nat}{K:CB}{tv:FV}{ho:Int}{T:List aB}{OO:List aX}{u:Int}{n:Nat}{L:List (List Int)}(h:IK V X.B b K tv ho T OO u n L)(hu:aH (RdS V K b) V V')(hst:∀k,StX X Bs k->X.B<=k/\k<w0)(hw:X.B<=w0)(hb:w0<=b):YQ X Bs (w0,b) V V':=by
 have lw:=h.ord;obtain⟨v,hv,_⟩:=h.X4;refine⟨hu.size,λk cs t fz hc hs=>hu.keep hc (λhr=>?_)⟩;have Jr:X.B<=k\/Dc t:=by
  rcases hs with hs|hs|hs
  .exact .inl (hst k hs).1
  .have:=hs.1;simp only at this;exact .inl (by omega)
  .exact .inr hs
 have ty:∀{t':TypeId}{cs':List Value},Own V t' k cs'->t'=t:=λho=>by
  obtain⟨tl,ho⟩:=ho;rw[hc]at ho;injection ho with ho
  injection ho with _ ho _
  exact ho.symm
 rcases hr with rfl|rfl|rfl|⟨hbk,cs',fz',h1⟩
 .rcases Jr with Jr|Jr
  .omega
  .rw[<-ty h.uJ]at Jr;revert Jr;unfold Dc;decide
 .obtain⟨es,c,hm⟩:=h.map.isMap
  rw[hc]at hm;cases hm
 .rcases Jr with Jr|Jr
  .omega
  .rw[<-ty hv]at Jr;revert Jr;unfold Dc;decide
 .rw[hc]at h1
  injection h1 with h1
  injection h1 with _ h1 _
  subst h1;rcases hs with hs|hs|hs
  .have:=hst k hs;omega
  .have:=hs.2;simp only at this;omega
  .revert hs;unfold Dc;decide
theorem agw{X:SX}{w0 Bs:Nat}{V V':World}{b:Nat}{S:Nat->Prop}(hu:aH S V V')(hS:∀k,S k->k<X.B/\∃t cs,Own V t k cs/\¬Dc t)(hst:∀k,StX X Bs k->X.B<=k/\k<w0)(hw:X.B<=w0):YQ X Bs (w0,b) V V':=
 ⟨hu.size,λk cs t fz hc hs=>hu.keep hc (λe=>by
  obtain⟨h1,t',cs',⟨tl,ho⟩,h2⟩:=hS k e;rw[hc]at ho;injection ho with ho
  injection ho with _ ho _
  subst ho;rcases hs with hs|hs|hs
  .have:=(hst k hs).1;omega
  .have:=hs.1;simp only at this;omega
  .exact h2 hs)⟩
theorem Oq{V V':World}{K:CB}{b D:Nat}(hu:aH (RdS V K b) V V')(h1:K.nb<D)(h2:K.m<D)(h3:K.rb<D):KeepsFrom D V V':=by
 refine⟨hu.size,λk o hD hk ho=>hu.keep hk (λhr=>?_)⟩;rcases hr with rfl|rfl|rfl|⟨_,cs,fz,h4⟩
 .omega
 .omega
 .omega
 .rw[hk]at h4
  cases h4
  cases ho
end
open Go.RowKit Go.Shelf
attribute [local go_sem] Oper.semAt_some
def yL(C:au)(f:bR)(u:Int)(L:List (List Int))(er:Int):Prop:=
 (er=1/\L=[]/\¬(fZ C f=true/\0<=u/\u<=C.days))\/
 (fZ C f=true/\0<=u/\u<=C.days/\((er=23/\L=[]/\Wn f.facts f.orders)\/
  ∃T OO Y,tC f.facts f.orders T OO/\qL T OO u Y/\((er=3/\L=[]/\400<Y.length)\/(er=0/\Y.length<=400/\L=qm (Y.map (λD=>gM T D u))))))
def U7(C:au)(f:bR)(u:Int)(w:World)(e:Ending)(w':World):Prop:=
 ∃(L:List (List Int))(er:Int)(A:Option Addr)(c:Nat),e= .returned (.tuple #[.slice A L.length c,.int .i64 er])/\rJ w' ⟨A,c⟩ L/\Below w.heap.size w w'/\yL C f u L er
theorem uK{Z Wf:World}{t t':TypeId}{a c:Nat}{x y u v:Value}(h1:Own Z t a [x])(h2:Own Z t' c [y])(hne:¬(a=c))(hW:Wf=(Z.setCell ⟨a,0,none⟩ u).setCell ⟨c,0,none⟩ v):Own Wf t a [u]/\Own Wf t' c [v]/\aH (λk=>k=a\/k=c) Z Wf:=by
 subst hW;have u1:aH (λk=>k=a) Z (Z.setCell ⟨a,0,none⟩ u):=(aH.refl (λk=>k=a) Z).setCell (p:=⟨a,0,none⟩) (.inl rfl) _;have u2:aH (λk=>k=c) (Z.setCell ⟨a,0,none⟩ u) ((Z.setCell ⟨a,0,none⟩ u).setCell ⟨c,0,none⟩ v):=(aH.refl (λk=>k=c) _).setCell (p:=⟨c,0,none⟩) (.inl rfl) _;exact⟨(h1.set (i:=0) (by simp) u).keep u2 hne,(h2.keep u1 (λe=>hne e.symm)).set (i:=0) (by simp) v,(u1.mono (λ_ _ e=>.inl e)).trans u2 (λ_ _ e=>.inr e)⟩
theorem Q_{C:au}{f:bR}(h:fZ C f=true):f.facts.length<=4000/\f.orders.length<=4000:=by
 simp only[fZ,bM,iE,oH,decide_eq_false_iff_not]at h;have:=h.2.2.1;omega
theorem rM{C:au}{x:aB}(h:sK C x=true):1<=x.ref/\x.ref<=1000000/\0<=x.act/\x.act<(C.acts.length:Int)/\0<=x.low/\x.low<=x.high/\x.high<C.days:=by
 simp only[sK,mR,bM,decide_eq_true_eq]at h;exact⟨h.1,h.2.1,h.2.2.1,h.2.2.2.1,h.2.2.2.2.1,h.2.2.2.2.2.1,h.2.2.2.2.2.2.1⟩
theorem SH{i:Int}(h0: -9223372036854775808<=i)(h1:i<=9223372036854775807):gW i:=by
 have e0:IntKind.i64.min= -9223372036854775808:=by decide
 have e1:IntKind.i64.max=9223372036854775807:=by decide
 simp only[gW,Lit.wf,bM,decide_eq_true_eq,e0,e1];exact⟨h0,h1⟩
theorem X5{z Wf:World}{t:TypeId}{rs:Nat}{x0 x1 x2 a b c:Value}(h:Own z t rs [x0,x1,x2])(hW:Wf=((z.setCell ⟨rs,0,none⟩ a).setCell ⟨rs,1,none⟩ b).setCell ⟨rs,2,none⟩ c):Own Wf t rs [a,b,c]/\aH (λk=>k=rs) z Wf:=by
 subst hW;refine⟨((h.set (i:=0) (by simp) a).set (i:=1) (by simp) b).set (i:=2) (by simp) c,?_⟩;exact(((aH.refl (λk=>k=rs) _).setCell (.inl rfl) _).setCell (.inl rfl) _).setCell (.inl rfl) _
theorem sS{C:au}{f:bR}(h:fZ C f=true):C.days<=2000/\C.acts.length<=60:=by
 simp only[fZ,bM]at h;have h:=h.1;simp only[au.valid,au.over,bM,iE,oH,decide_eq_false_iff_not]at h;omega
theorem Ot{F T:List aB}{OO:List aX}{u:Int}(h:jf F T OO)(hp:∀x∈F,0<=x.low)(h0:0<=u)(h1:u<=2000):∀i,i<T.length-> -1000000<=I_ T u i/\Ja T u i<=1000000:=λi hi=>by
 have e:T[i]?=some T[i]:=aT hi;unfold I_ Ja;rw[getD_map e,getD_map e];obtain⟨x,hx,hr⟩:=h.had (wG hi);have h2:=h.leL x hx _ (wG hi) (jD hr);have h3:=hp x hx;omega
theorem BL(w:World):rJ w ⟨none,0⟩ []:=⟨[],rfl,fD _ _,λi l t h=>by simp at h⟩
theorem EI(v:CV)(C:au)(fv:FV)(f:bR)(u:Int)(w:World)(hC:bU w v C)(hF:fM w fv f)(hn:f.facts.length<=400)(hT:Tab w):
 Calls Tryz.prog 36 #[v.val C,fv.val f,.int .i64 u] w (U7 C f u w):=by
 obtain⟨⟨dF,dG⟩,⟨dH,dK⟩,⟨dV,dn⟩,⟨dQ,dh⟩,⟨dz,dB⟩⟩:=v;obtain⟨⟨fA,fc⟩,⟨oA,oc⟩⟩:=fv;obtain⟨ho,F,O⟩:=f;simp only at hn;have HC:=ah hC;clear hC;have HF:=ah hF;clear hF;have HT:=ah hT;clear hT;simp only[CV.val,CV.cells,FV.val,FV.cells];refine(bQ (n:=6)).1 ?_;refine callsIn_of_wp_marks Tryz.func36 rfl trivial ?_ rfl;simp only[Tryz.ntmps36,qU,iy,jJ,Nat.reduceAdd,Nat.reduceSub,rX,rY,r_,rZ,mI,r9]
 gi_upto_region 1 with(fail)
 generalize hW0:World.alloc _ _=W0;obtain⟨HB,hh0,g_,wu,hh3,K9⟩:=bx5 hW0;clear hW0;have O0:Own W0 27 w.heap.size _:=⟨[],by rw[b_];exact hh0⟩;have O1:Own W0 31 (w.heap.size+1) [.int .i64 ho,.slice fA F.length fc,.slice oA O.length oc]:=⟨[],by rw[b_];exact g_⟩;have O2:Own W0 3 (w.heap.size+2) [.int .i64 u]:=⟨[],by rw[b_];exact wu⟩;have O3:Own W0 84 (w.heap.size+3) [.slice none 0 0]:=⟨[],by rw[b_];exact hh3⟩;have O4:Own W0 37 (w.heap.size+4) [.int .i64 0]:=⟨[],by rw[b_];exact K9⟩;clear hh0 g_ wu hh3 K9;generalize hb4:w.heap.size+1+1+1+1=b4 at O4⊢;generalize hb3:w.heap.size+1+1+1=b3 at O3⊢;generalize hb2:w.heap.size+1+1=b2 at O2⊢;generalize hb1:w.heap.size+1=b1 at O1⊢;generalize hb0:w.heap.size=b0 at O0⊢;have Z0:Hid (w.heap.size=b0/\w.heap.size+1=b1/\w.heap.size+2=b2/\w.heap.size+3=b3/\w.heap.size+4=b4):=⟨hb0,hb1,hb2,hb3,hb4⟩;clear hb0 hb1 hb2 hb3 hb4;have n34:¬(b3=b4):=by have:=Z0.out;omega
 have n43:¬(b4=b3):=by have:=Z0.out;omega
 have O0H:=ah O0;have O1H:=ah O1;have O2H:=ah O2;have O3H:=ah O3;have O4H:=ah O4;have x0:=O0.cell (i:=0) rfl;have x1:=O0.cell (i:=1) rfl;have x2:=O0.cell (i:=2) rfl;have x3:=O0.cell (i:=3) rfl;have x4:=O0.cell (i:=4) rfl;have x5:=O0.cell (i:=5) rfl;have x6:=O0.cell (i:=6) rfl;have y0:=O1.cell (i:=0) rfl;have y1:=O1.cell (i:=1) rfl;have y2:=O1.cell (i:=2) rfl;clear O0 O1 O2 O3 O4;have HFV:=ah (zw ⟨⟨dF,dG⟩,⟨dH,dK⟩,⟨dV,dn⟩,⟨dQ,dh⟩,⟨dz,dB⟩⟩ C ⟨⟨fA,fc⟩,⟨oA,oc⟩⟩ ⟨ho,F,O⟩ W0 (HC.out.below HB.out) (HF.out.below HB.out));by_cases hok:fZ C ⟨ho,F,O⟩=true
 .rw[hok]at HFV
  have Fy:=ah hok;clear hok;by_cases hu0:0<=u
  .by_cases hu1:u<=C.days
   .have g1:¬(u<0):=by omega
    have g2:¬(C.days<u):=by omega
    gi_wp2_with (refine⟨trivial,?_⟩;gi_at_call 12;refine(bQ.2 HFV.out).mono ?_;rintro e Z ⟨rfl,hz⟩;refine Hid.out ?_);refine ah ?_;have HZ:Hid (Below w.heap.size w Z):=ay HB.out hz;have P1:=ah (O1H.out.below hz);have P2:=ah (O2H.out.below hz);have P3:=ah (O3H.out.below hz);have P4:=ah (O4H.out.below hz);have z5:=(O0H.out.below hz).cell (i:=5) rfl;have z2:=P2.out.cell (i:=0) rfl;have z3:=P3.out.cell (i:=0) rfl;have z4:=P4.out.cell (i:=0) rfl;have f3:=P3.out.frozen 0;have f4:=P4.out.frozen 0;clear hz x0 x1 x2 x3 x4 x5 x6 y0 y1 y2
    gi_upto_region 3 with(fail)
    have YN:=ah (nu Fy.out);simp only at YN;have HKN:Hid (wU F O):=by
     have h:=BA (C:=C) (fs:=[⟨ho,F,O⟩]) (λf hf=>by rw[dZ.1 hf];exact Fy.out);rw[show aL [(⟨ho,F,O⟩:bR)]=F by simp[aL],show bg [(⟨ho,F,O⟩:bR)]=O by simp[bg]]at h;exact h
    have HR:Hid (∀x∈F,gW x.ref):=λx hx=>by
     have h:=rM (ku YN.out x hx).2;exact SH (by omega) (by omega)
    have HOL:Hid (O.length<=4000):=(Q_ Fy.out).2;have ha:Own (Z.alloc (.cells #[.int .i64 ho,.slice fA F.length fc,.slice oA O.length oc] 31)) 31 Z.heap.size (EY [(⟨ho,F,O⟩,⟨⟨fA,fc⟩,⟨oA,oc⟩⟩)]):=Own.new Z _ [.int .i64 ho,.slice fA F.length fc,.slice oA O.length oc];have hba:Below w.heap.size w (Z.alloc (.cells #[.int .i64 ho,.slice fA F.length fc,.slice oA O.length oc] 31)):=ay HZ.out (aK (aD _ _) _);have hfs:=lK.row (c:=1) ha (by simp) (by unfold maxLen;omega) (λq hq=>by rw[dZ.1 hq];exact HF.out.below hba);have hjo:=G_ [⟨ho,F,O⟩] ⟨some ⟨Z.heap.size,0,none⟩,1⟩ ⟨ho,F,O⟩ _ hfs rfl (by simp) (by simpa [aL]using HR.out) (by simp[aL];omega) (by have:=HOL.out;simpa [bg]using this) (by simpa [aL,bg]using HKN.out);rw[show aL [(⟨ho,F,O⟩:bR)]=F by simp[aL],show bg [(⟨ho,F,O⟩:bR)]=O by simp[bg]]at hjo;have HJO:Hid (Calls Tryz.prog 62 #[.slice (some ⟨Z.heap.size,0,none⟩) 1 1] (Z.alloc (.cells #[.int .i64 ho,.slice fA F.length fc,.slice oA O.length oc] 31)) (NU ho F O (Z.alloc (.cells #[.int .i64 ho,.slice fA F.length fc,.slice oA O.length oc] 31)))):=hjo;have z10:=P1.out.cell (i:=0) rfl;have z11:=P1.out.cell (i:=1) rfl;have z12:=P1.out.cell (i:=2) rfl;have Lp:=ah hba;clear ha hfs hjo hba z5 z2 z3 z4 f3 f4;gi_wp2_with (refine⟨trivial,?_⟩;gi_at_call 62;refine(bQ.2 HJO.out).mono ?_;rintro e Z2 ⟨ho',T,OO,er,tA,tc,qA,qc,rfl,hfa,⟨hlt1,hlt2⟩,hb2,hj⟩;refine Hid.out ?_);refine ah ?_;have hbz:Below Z.heap.size Z Z2:=(aK (aD _ _) _).trans (hb2.mono (by simp));have HB2:Hid (Below w.heap.size w Z2):=ay HZ.out hbz;have Q1:=P1.out.below hbz;have Q2:=ah (P2.out.below hbz);have Q3:=ah (P3.out.below hbz);have Q4:=ah (P4.out.below hbz);have HTA:=ah hfa;have HJ:=ah hj;have k10:=Q1.cell (i:=0) rfl;have k11:=Q1.cell (i:=1) rfl;have k12:=Q1.cell (i:=2) rfl;have f10:=Q1.frozen 0;have f11:=Q1.frozen 1;have f12:=Q1.frozen 2;have uT:=ah Q1;have HLO:Hid (∀b off,tA=some ⟨b,off,none⟩->b1<b):=λb off e=>by have h1:=hlt1 b off e;have h2:=P1.out.lt;simp at h1;omega
    have HLQ:Hid (∀b off,qA=some ⟨b,off,none⟩->b1<b):=λb off e=>by have h1:=hlt2 b off e;have h2:=P1.out.lt;simp at h1;omega
    clear hbz hb2 hfa hj hlt1 hlt2 P1 P2 P3 P4 Lp HJO z10 z11 z12 Q1
    gi_upto_region 4 with(fail)
    obtain⟨Wf,lW⟩:∃Wf,Hid (Wf=((Z2.setCell ⟨b1,0,none⟩ (.int .i64 ho')).setCell ⟨b1,1,none⟩ (.slice tA T.length tc)).setCell ⟨b1,2,none⟩ (.slice qA OO.length qc)):=⟨_,rfl⟩;rw[<-lW.out];obtain⟨R1,hu⟩:=X5 uT.out lW.out;have UG:Hid (b1≠b2/\b1≠b3/\b1≠b4/\w.heap.size<=b1):=by have:=Z0.out;exact⟨by omega,by omega,by omega,by omega⟩
    have R2:=ah (Q2.out.keep hu (λe=>UG.out.1 e.symm));have R3:=ah (Q3.out.keep hu (λe=>UG.out.2.1 e.symm));have R4:=ah (Q4.out.keep hu (λe=>UG.out.2.2.1 e.symm));have Z4:Hid (Below w.heap.size w Wf):=HB2.out.trans (hu.below HB2.out.size (λk e=>by have:=UG.out.2.2.2;omega));have HTF:Hid (fM Wf ⟨⟨tA,tc⟩,⟨qA,qc⟩⟩ ⟨ho',T,OO⟩):=⟨uG HTA.out.facts (by omega) hu (λb off e k=>by have:=HLO.out b off e;omega),uG HTA.out.orders (by omega) hu (λb off e k=>by have:=HLQ.out b off e;omega)⟩;have R1H:=ah R1;clear hu R1;rcases HJ.out with⟨rfl,rfl,aa4⟩|⟨rfl,rfl,rfl,rfl,hev⟩
    .have HFI:=ah aa4
     clear aa4 lW uT HJ;have hmm:=@run_makeMap Tryz.prog
     gi_upto_region 9 with(fail)
     generalize hW9:World.alloc (World.alloc (World.alloc (World.alloc Wf _) _) _) _=W9;have hm9:d9 InT 9 Ia W9 Wf.heap.size 0 (λ_=>none):=by
      refine(d9.made (P:=InT) (K:=9) (enc:=Ia) Wf).below (m:=(Wf.alloc (.map #[] 0)).heap.size) (by simp) ?_;rw[<-hW9];exact ay (ay (aK (aD _ _) _) (aK (aD _ _) _)) (aK (aD _ _) _)
     have hs9:W9.heap.size=Wf.heap.size+1+1+1+1:=by rw[<-hW9];simp
     obtain⟨SI,_,m1,m2,m3⟩:=bx4 hW9;have HM9:=ah hm9;have wC:Hid (Own W9 119 (Wf.heap.size+1) [.map (some Wf.heap.size)]):=⟨[],by rw[b_];exact m1⟩;have Mi:Hid (Own W9 84 (Wf.heap.size+1+1) [.slice none 0 0]):=⟨[],by rw[b_];exact m2⟩;have Xv:Hid (Own W9 3 (Wf.heap.size+1+1+1) [.int .i64 0]):=⟨[],by rw[b_];exact m3⟩;clear hW9 m1 m2 m3 hm9 hmm;generalize hkn:Wf.heap.size+1+1+1=kn at Xv⊢;generalize hkr:Wf.heap.size+1+1=kr at Mi⊢;generalize hkm:Wf.heap.size+1=km at wC⊢;have Ra:Hid (km=Wf.heap.size+1/\kr=Wf.heap.size+2/\kn=Wf.heap.size+3):=⟨hkm.symm,hkr.symm,hkn.symm⟩;clear hkn hkr hkm;have Sz:=ah (iZ YN.out);have X6:Hid (jf F T OO):=by
      have h:=HFI.out.tight;rw[qD Sz.out]at h;exact h
     have Z7:Hid (T.length=F.length):=C8 X6.out;have agy:Hid (∀t∈T,∃x∈F,x.ref=t.ref/\x.act=t.act):=λt ht=>by
      obtain⟨x,hx,e⟩:=X6.out.had ht;exact⟨x,hx,jD e,congrArg (λz=>z.2.1) e⟩
     have HTR:Hid (∀t∈T,gW t.ref):=λt ht=>by
      obtain⟨x,hx,e,_⟩:=agy.out t ht;rw[<-e];exact HR.out x hx
     have hkF:Known F OO:=by
      have h:=HKN.out.known HFI.out.ord;rw[qD Sz.out]at h;exact h
     have Z8:Hid (Known T OO):=X6.out.known hkF;have HKF:=ah hkF;have HTD:=ah (X6.out.distinct Sz.out);have HOO:Hid (OO.length<=4000):=bF (G8 HFI.out.ord) HOL.out;have hns:=Jp ⟨⟨tA,tc⟩,⟨qA,qc⟩⟩ ho' T OO u W9 (HTF.out.below SI.out) HTR.out HTD.out (by have:=Z7.out;omega) HOO.out Z8.out;simp only[FV.val,FV.cells]at hns;have YS:=ah hns;have n10:=(R1H.out.below SI.out).cell (i:=0) rfl;have n11:=(R1H.out.below SI.out).cell (i:=1) rfl;have n12:=(R1H.out.below SI.out).cell (i:=2) rfl;have n20:=(R2.out.below SI.out).cell (i:=0) rfl;have HZ9:=ah hs9;clear hns hkF hs9;gi_wp2_with (refine⟨trivial,?_⟩;gi_at_call 63;refine(bQ.2 YS.out).mono ?_;rintro e W10 ⟨X,rfl,hXB,hXr,hXn,agz,agA,hXs,agB⟩;refine Hid.out ?_);refine ah ?_;have HXS:=ah hXs;have HXB:=ah hXB;have ZC:=ah hXr;have YT:=ah hXn;have HXP:Hid (X.Lb=nK (bI T OO) X.n (bI T OO).length/\X.La=nL (bI T OO) X.n (bI T OO).length):=by
      have e:(bI T OO).length=OO.length:=by unfold bI;rw[eF]
      rw[e,hXn];exact⟨agz,agA⟩
     have ac8:=ah agB;clear hXB hXr hXn agz agA hXs agB n10 n11 n12 n20;gi_wp2_with (refine⟨trivial,?_⟩;gi_at_call 64;refine(bQ.2 (LC _ _)).mono ?_;rintro e z ⟨rfl,rfl⟩);generalize ac9:World.alloc W10 _=VD;obtain⟨ac_,ada⟩:=bx1' ac9;obtain⟨Bs,hBs⟩:∃Bs,Bs=W10.heap.size:=⟨_,rfl⟩;rw[<-hBs]at ada⊢;have Pb:Hid (Own VD 122 Bs [.pointer (some ⟨X.sb,0,none⟩)]):=⟨[],by rw[b_];exact ada⟩;have Rb:=ah (HXS.out.below ac_);have ajM:VD.heap.size=Bs+1:=by rw[<-ac9,hBs];simp
     have hxb:X.B<=Bs:=by rw[hBs,HXB.out];exact ac8.out.size
     have Js:Hid (Below W9.heap.size W9 VD):=ay ac8.out ac_;have HST:Hid (∀k,StX X Bs k->X.B<=k/\k<VD.heap.size):=λk hk=>by
      rcases hk with rfl|rfl|rfl|⟨v,hv,hq⟩
      .exact⟨ZC.out.1,Rb.out.uQ.own.lt⟩
      .exact⟨ZC.out.2,Rb.out.wB.own.lt⟩
      .omega
      .rcases hv with hv|hv
       .exact⟨(Rb.out.uQ.low v hv k hq).1,(Rb.out.uQ.low v hv k hq).2.1⟩
       .exact⟨(Rb.out.wB.low v hv k hq).1,(Rb.out.wB.low v hv k hq).2.1⟩
     have sO:Hid (X.B<=VD.heap.size/\w.heap.size<=X.B/\X.B=Wf.heap.size+4):=by
      have h1:=Z4.out.size;have h2:=HXB.out;have h3:=HZ9.out;exact⟨by omega,by omega,by omega⟩
     clear ac9 ac_ ada hBs ajM hxb HXS HXB ZC ac8 YS;obtain⟨K,HK⟩:∃K:CB,Hid (K=⟨b0,b1,b2,b3,b4,km,kr,kn,Wf.heap.size⟩):=⟨_,rfl⟩;have TT:Hid (∀b,IK VD X.B b K ⟨⟨tA,tc⟩,⟨qA,qc⟩⟩ ho' T OO u 0 []):=λb=>by
      have o1:=(R1H.out.below SI.out).below Js.out;have o2:=(R2.out.below SI.out).below Js.out;have o3:=(R3.out.below SI.out).below Js.out;have o4:=(R4.out.below SI.out).below Js.out;have l1:=R1H.out.lt;have l2:=R2.out.lt;have l3:=R3.out.lt;have l4:=R4.out.lt;rw[HK.out];refine⟨o1,o2,o3,o4,wC.out.below Js.out,⟨_,Mi.out.below Js.out,kU.nil _ _⟩,Xv.out.below Js.out,(HTF.out.facts.below (by omega) SI.out).below (by omega) Js.out,?_,λh0 k off e=>?_,?_⟩
      .rw[X3]
       exact HM9.out.below HM9.out.lt Js.out
      .simp only at e⊢
       obtain⟨g,o,e2,hl,_⟩:=HTF.out.facts.fact h0;simp only at e2;rw[e]at e2;simp only[Option.some.injEq,Addr.mk.injEq,and_true]at e2;omega
      .have:=sO.out
       have:=Ra.out;simp only;omega
     have ajN:Hid (O9 X.n (I_ T u) (Ja T u) (bI T OO)):=by
      show O9 _ _ _ _;rw[YT.out];exact O9.Wo X6.out Sz.out HKF.out HFI.out.le u
     have SG:Hid (∀i,i<X.n-> -1000000<=I_ T u i/\Ja T u i<=1000000):=by
      have h1:=sS Fy.out;intro i hi';rw[YT.out]at hi';exact Ot X6.out (λx hx=>by have:=rM (ku YN.out x hx).2;omega) hu0 (by omega) i hi'
     have adb:Hid (X.n<=400/\(bI T OO).length<=4000):=by
      have e:(bI T OO).length=OO.length:=by unfold bI;rw[eF]
      have h1:=YT.out;have h2:=Z7.out;have h3:=HOO.out;exact⟨by omega,by omega⟩
     have xE:Hid (Below w.heap.size w VD):=ay (ay Z4.out SI.out) Js.out;refine m_ (α:=Nat×List Int) rfl (by omega) (gf:=100) rfl trivial (enters_of Tryz.func100 (by kernel_rfl) rfl)
      (encs:=λ_ x=>#[.slice (some ⟨x.1,0,none⟩) X.n X.n]) (Mv:=λb=>Po X (VD.heap.size+2,b)) (Kp:=λb=>YQ X Bs (VD.heap.size+2,b)) (Ok:=COk X.n (VD.heap.size+2)) (Nn:=agr X.n (VD.heap.size+2))
      (S:=λxs=>j_ X.n (I_ T u) (Ja T u) (bI T OO) (xs.map Prod.snd)/\xs.length<=400) (SL:=λ_=>∃Y,j_ X.n (I_ T u) (Ja T u) (bI T OO) Y/\400<Y.length)
      (I:=λb pre V=>IK V X.B b K ⟨⟨tA,tc⟩,⟨qA,qc⟩⟩ ho' T OO u pre.length (qm (pre.map (λx=>gM T x.2 u)))/\Below w.heap.size w V/\X.B<=V.heap.size)
      (λW1 hW1 hsz=>by
       have h:=LD (P:=bI T OO) (lo:=I_ T u) (hi:=Ja T u) (Bs:=Bs) 5 (by omega) (λb pre V=>IK V X.B b K ⟨⟨tA,tc⟩,⟨qA,qc⟩⟩ ho' T OO u pre.length (qm (pre.map (λx=>gM T x.2 u)))/\Below w.heap.size w V/\X.B<=V.heap.size) W1 (Rb.out.below hW1) (Pb.out.below hW1) ajN.out SG.out HXP.out.1 HXP.out.2 adb.out.1 adb.out.2;rw[hsz]at h;exact h) (λ_ _=>rfl)
      (λ_ _ V=>Own V 84 b3 [.slice none 0 0]/\Own V 37 b4 [.int .i64 3]/\Below w.heap.size w V/\X.B<=V.heap.size)
      (λb pre V V' h ht=>⟨h.1.turn ht sO.out.1 h.2.2,h.2.1.trans (aH.below ht h.2.1.size (λk hk=>by have:=hk.1;have:=sO.out;omega)),bF h.2.2 ht.size⟩)
      (λb pre V V' h ht=>⟨h.1.turn ht,h.2.1.turn ht,h.2.2.1.trans (aH.below ht h.2.2.1.size (λk hk=>by have:=hk.1;have:=sO.out;omega)),bF h.2.2.2 ht.size⟩)
      (λb pre x V V' h ht=>⟨h.1,h.2.1,h.2.2.1.turn ht,bF h.2.2.2.1 ht.size,h.2.2.2.2⟩) (λb pre x V V' h ht=>⟨h.1,h.2.1,h.2.2.1.turn ht,bF h.2.2.2.1 ht.size,h.2.2.2.2⟩)
      (λb V V1 Y1 Y hb ht hk ht2=>⟨bF ht.size (bF hk.1 ht2.size),λk cs t fz hc hs=>ht2.cells (hk.2 k cs t fz (ht.cells hc) hs)⟩)
      (λb V V' k o hb hm hk1 hk2 ho hc=>hm.keep ho (λhs=>by
       rcases hs with hs|⟨_,cs,t,fz,h1,_⟩
       .have:=hs.1;simp only at this;omega
       .rw[ho]at h1;cases h1;cases hc))
      (λb pre V V' hb h hm=>by
       have h1:=hm.kG (by have:=sO.out;omega) h.2.2;exact⟨h.1.mv hm (by have:=sO.out;omega) h.2.2,h.2.1.trans (h1.mono sO.out.2.1),bF h.2.2 hm.size⟩)
      (λb pre V V' hb h hm=>by
       have h1:=hm.kG (by have:=sO.out;omega) h.2.2.2;have h2:=R3.out.lt;have h3:=R4.out.lt;have h4:=sO.out;exact⟨h.1.kG (by omega) h1,h.2.1.kG (by omega) h1,h.2.2.1.trans (h1.mono sO.out.2.1),bF h.2.2.2 hm.size⟩)
      (λ_=>[]) (λb V hV hb=>⟨(TT.out b).below sO.out.1 hV,ay xE.out hV,bF sO.out.1 hV.size⟩) ?a1 ?assign ?body ?leave ?done ?stop
     case assign=>
      intro l b x W k Kx hk hKx;gi_wp2;exact hKx
     case body=>
      as_aux_lemma=>
       rintro l b pre ⟨xb,ds⟩ W k hb ⟨hC,hBw,Z9⟩ ⟨hp,hdl,hdo,hbs,hd0,hd1⟩ hk hbx;simp only at hdl hdo hd0 hd1 hp;clear hk hbx;obtain⟨L,hL⟩:∃L,qm (pre.map (λx=>gM T x.2 u))=L:=⟨_,rfl⟩;rw[hL]at hC;obtain⟨tr,X7⟩:∃tr,gM T ds u=tr:=⟨_,rfl⟩;have HL:Hid (qm (pre.map (λx=>gM T x.2 u)++[gM T ds u])=nG L tr):=by show _=_;rw[zZ,hL,X7]
       have HLL:Hid (L.length<=400):=by show _<=_;have:=U4 (pre.map (λx=>gM T x.2 u));rw[hL,eF]at this;omega
       clear hL;have HC:=ah hC;rw[HK.out]at hC;have Rc:=hC.ord;simp only at Rc;have HO:=ah Rc;have hsb:=sO.out;have kb:kn<b/\kr<b/\Wf.heap.size<b:=by omega
       have KB:=ah kb;have c0:=hC.uJ.cell (i:=0) rfl;have f0:=hC.uJ.frozen 0;simp only at c0 f0;have xW:=ah hBw;have Z_:=ah Z9;have Zv:=ah hdo;have HDL:=ah hdl;have HDX:Hid (VD.heap.size+2<=xb/\xb<b/\b<=W.heap.size):=⟨hd0,hd1,hbs⟩;have Ki:=ah hC;have hpl:pre.length<400:=hp;clear hC Rc hsb kb hBw Z9 hdo hdl hd0 hd1 hbs hp
       gi_upto_region 12 with(fail)
       generalize hW1:World.setCell _ _ _=W1;have u1:aH (λk=>k=kn) W W1:=by rw[<-hW1];exact(aH.refl (λk=>k=kn) W).setCell (p:=⟨kn,0,none⟩) (.inl rfl) _
       have o1:Own W1 3 kn [.int .i64 ((pre.length:Int)+1)]:=by rw[<-hW1];exact Ki.out.uJ.set (i:=0) (by simp) _
       clear hW1 c0 f0;have n0:=o1.cell (i:=0) rfl;have lw:=HO.out;have y1:=(Ki.out.Q8.keep u1 (by simp only;omega)).cell (i:=1) rfl;have y2:=(Ki.out.ac7.keep u1 (by simp only;omega)).cell (i:=0) rfl;simp only at y1 y2;have g1:¬(400<(pre.length:Int)+1):=by omega
       have htc:=UF tA tc (some ⟨xb,0,none⟩) X.n T ds u W1 (Q9 Ki.out.facts (by omega) u1 (λh0 k off e=>by have:=Ki.out.fl h0 k off e;simp only at this;omega))
        ((Zv.out.keep u1 (by have:=HDX.out;have:=sO.out;omega)).Cb (by rw[N7];omega) (C_ ds) (by have:=HDL.out;omega) (by have:=adb.out.1;unfold maxLen;omega)) HTR.out (by have:=Z7.out;omega)
       rw[HDL.out,X7]at htc;have HTC:=ah htc;have Af:=ah u1;have Nv:=ah o1;clear htc u1 o1 lw;gi_wp2_with (refine⟨trivial,?_⟩;gi_at_call 16;refine(CallsIn.inRound l (bQ.2 HTC.out)).mono ?_;rintro e W2 ⟨A2,c2,rfl,h1,h2⟩;refine Hid.out ?_);refine ah ?_;have HT2:=ah h1;have HB2:=ah h2;have hac:∀a∈tr, -9223372036854775808<=a/\a<=9223372036854775807:=λa ha=>by
        rw[<-X7]at ha;rcases Q7 ha with rfl|⟨y,hy,rfl⟩
        .omega
        .obtain⟨z,hz,_,e⟩:=agy.out y hy
         have h5:=rM (ku YN.out z hz).2;have h6:=(sS Fy.out).2;omega
       have hlen:tr.length<=4000:=by
        have h5:=U5 (F:=T) (D:=ds) (u:=u);rw[X7]at h5;have h6:=(sS Fy.out).1;have h7:=Z7.out;omega
       have Vw:=ah (XZ tr A2 c2 W2 (Di h1 (C_ tr)) hac (by omega) (HT.out.below ((xW.out.trans (Af.out.below xW.out.size (λk e=>by have:=Z4.out.size;have:=Ra.out;omega))).trans (h2.mono (by have:=xW.out.size;have:=Af.out.size;omega)))));have qB:Hid (InT tr):=by
        show InT tr;have h5:=Kg tr hac;unfold InT maxLen;omega
       have ZI:=ah hlen;clear h1 h2 hac hlen n0 y1 y2 g1 X7 HTC;gi_wp2_with (refine⟨trivial,?_⟩;gi_at_call 65;refine(CallsIn.inRound l (bQ.2 Vw.out)).mono ?_;rintro e W3 ⟨rfl,h1⟩;refine Hid.out ?_);refine ah ?_;have zD:Hid (aH (λk=>k=kn) W W3):=lD (lD Af.out HB2.out) h1;have HT3:Hid (W3.ownsRow b 3 1 (.slice A2 tr.length c2) tr.length (aR tr)):=BD (dM HT2.out h1) (λg hg=>by have h7:=(HT2.out.lt g hg).1;have:=HDX.out;have:=Af.out.size;omega);have HN3:Hid (Own W3 3 kn [.int .i64 ((pre.length:Int)+1)]):=(Nv.out.below HB2.out).below h1;clear h1 Vw HT2 HB2 Nv Af;have hmp:d9 InT 9 Ia W3 Wf.heap.size L.length (z8 L):=Ki.out.map.upd zD.out (by simp only;have:=Ra.out;omega);have hlk:=d9.look agu Tryz.underlying119 hmp (aeL W3) qB.out (agv qB.out);have lw:=HO.out;have m0:=(Ki.out.Dj.keep zD.out (by simp only;omega)).cell (i:=0) rfl;simp only at m0;have HMP:=ah hmp;clear hmp lw;by_cases hin:tr∈L
       .have hv:z8 L tr=some (.bool true):=by unfold z8;rw[if_pos hin]
        rw[hv,Option.getD_some]at hlk;have YR:Hid (nG L tr=L):=by show _=_;unfold nG;rw[if_pos hin]
        clear hv hin;generalize(⟨(kE tr).toArray⟩:ByteArray)=tx at hlk⊢;gi_wp2;have hC3:IK W3 X.B b K ⟨⟨tA,tc⟩,⟨qA,qc⟩⟩ ho' T OO u (pre.length+1) L:=by
         rw[HK.out];obtain⟨v,hv,hr⟩:=Ki.out.X4;have lw:=HO.out;refine Ki.out.round (zD.out.mono (λk _ e=>.inl e)) HN3.out ⟨v,hv.keep zD.out (by simp only;omega),hr.upd zD.out (λk cs t fz hk _ _ e=>by have:=KB.out;omega)⟩ HMP.out
        have hR3:aH (RdS W K b) W W3:=zD.out.mono (λk _ e=>.inl (by rw[HK.out];exact e));have l1:=sO.out;have l2:=Ra.out;have l3:=Z4.out.size;refine⟨Oq hR3 (by rw[HK.out];simp only;omega) (by rw[HK.out];simp only;omega) (by rw[HK.out];simp only;omega),HC.out.kp hR3 (λk hk=>by have:=HST.out k hk;omega) (by omega) hb,?_,xW.out.trans (zD.out.below xW.out.size (λk e=>by omega)),bF Z_.out zD.out.size⟩;rw[HL.out,YR.out];exact hC3
       .have hv:z8 L tr=none:=by unfold z8;rw[if_neg hin]
        rw[hv,Option.getD_none]at hlk;have YR:Hid (nG L tr=L++[tr]):=by show _=_;unfold nG;rw[if_neg hin]
        obtain⟨W4,hrun,XU,htr⟩:=d9.put X0 agu Tryz.underlying119 HMP.out (by have:=HLL.out;unfold maxLen;omega) qB.out (agv qB.out) (.bool true);rw[hv]at XU;have HM4:Hid (d9 InT 9 Ia W4 Wf.heap.size (L++[tr]).length (z8 (L++[tr]))):=by
         have e:(λx=>if x=tr then some (Value.bool true)else z8 L x)=z8 (L++[tr]):=by funext x;exact U6 L tr x
         rw[e]at XU;rw[lS,vN];exact XU
        have HUM:Hid (aH (λk=>k=Wf.heap.size) W3 W4):=gP htr;clear hv hin XU htr;generalize(⟨(kE tr).toArray⟩:ByteArray)=tx at hlk hrun⊢
        gi_upto_region 18 with(fail)
        clear hlk hrun m0;have YU:Hid (aH (λk=>k=kn\/k=Wf.heap.size) W W4):=(zD.out.mono (λ_ _ e=>.inl e)).trans HUM.out (λ_ _ e=>.inr e);obtain⟨v,hv,ts,r1,r2,r3⟩:=Ki.out.X4;obtain⟨vA,vc,rfl⟩:=ownsRow_form r2;have l0:=KB.out;have lw:=HO.out;have VB:Hid (Own W4 84 kr [.slice vA L.length vc]):=hv.keep YU.out (by simp only at lw⊢;omega);have hlow:∀{e:TypeId}{n:Nat}{v:Value}{xs:List Value},W.ownsRow b e 1 v n xs->W4.ownsRow b e 1 v n xs:=λh=>bX h YU.out (λk hk hs=>by have:=(h.lt k hk).1;omega);have HR2:=ah (hlow r2);have HR3:Hid (∀(i:Nat)(l:List Int)(t:SV),L[i]?=some l->ts[i]?=some t->W4.ownsRow b 3 1 (.slice t.A l.length t.c) l.length (aR l)):=λi l t hl ht=>hlow (r3 i l t hl ht);have ZP:=ah r2;have HTS:=ah r1;have HT4:Hid (W4.ownsRow b 3 1 (.slice A2 tr.length c2) tr.length (aR tr)):=bX HT3.out HUM.out (λk hk hs=>by have:=(HT3.out.lt k hk).1;omega);have HN4:=ah (HN3.out.keep HUM.out (by have:=Ra.out;omega));have b4:b<=W4.heap.size:=by have:=YU.out.size;have:=HDX.out;omega
        have LL:=HLL.out;have r0:=VB.out.cell (i:=0) rfl;obtain⟨is,his,hiz,agC,hib⟩:=info_parts' (P:=Tryz.prog) (t:=22) (z:=some (.slice none 0 0)) (s:=1) (b:=24) (by kernel_rfl);clear hv r1 r2 r3 hlow lw l0 zD HN3 HT3 HUM HMP;gi_wp2_with (gi_at_builtin;refine qj rfl _ _ 84 rfl 22 is (.slice none 0 0) 1 24 Tryz.underlying84 his hiz agC hib rfl (by decide) b _ L.length _ rfl HR2.out [.slice A2 tr.length c2] _ rfl rfl (by intro u hu;simp only[d_,iW,or_false]at hu;subst hu;rfl) rfl (by unfold maxLen;omega) (by omega) (by omega) ?_;intro g6 c6 w6 h1 h2;refine Hid.out ?_);refine ah ?_;have vC:Hid (aH (λk=>(Value.slice vA L.length vc).ownBlock=some k) W4 w6):=aH.trans ((aH.refl _ W4).alloc _) (aH.jm h2) (λi _ h=>h);have hbk:∀k,(Value.slice vA L.length vc).ownBlock=some k->b<=k:=λk hk=>(HR2.out.lt k hk).1;have l0:=KB.out;have Sq:=ah (VB.out.keep vC.out (λe=>by have:=hbk _ e;omega));have Mk:Hid (kU w6 b (.slice (some ⟨g6,0,none⟩) (L.length+1) c6) (L++[tr])):=kU.snoc (t:=⟨A2,c2⟩) HTS.out HR2.out HR3.out HT4.out h1 vC.out;have r6:=Sq.out.cell (i:=0) rfl;have f6:=Sq.out.frozen 0;clear h1 h2 r0 b4 LL his hiz agC hib;gi_wp2;generalize hW7:World.setCell _ _ _=W7;have u7:aH (λk=>k=kr) w6 W7:=by rw[<-hW7];exact(aH.refl (λk=>k=kr) w6).setCell (p:=⟨kr,0,none⟩) (.inl rfl) _
        have o7:Own W7 84 kr [.slice (some ⟨g6,0,none⟩) (L.length+1) c6]:=by rw[<-hW7];exact Sq.out.set (i:=0) (by simp) _
        have u47:aH (λk=>k=kr\/(Value.slice vA L.length vc).ownBlock=some k) W4 W7:=(vC.out.mono (λ_ _ e=>.inr e)).trans u7 (λ_ _ e=>.inl e);have u07:aH (λk=>k=kn\/k=Wf.heap.size\/k=kr\/(Value.slice vA L.length vc).ownBlock=some k) W W7:=(YU.out.mono (λ_ _ e=>by rcases e with e|e;exact .inl e;exact .inr (.inl e))).trans u47 (λ_ _ e=>.inr (.inr e));have l1:=sO.out;have l2:=Ra.out;have l3:=Z4.out.size;have hC7:IK W7 X.B b K ⟨⟨tA,tc⟩,⟨qA,qc⟩⟩ ho' T OO u (pre.length+1) (L++[tr]):=by
         rw[HK.out];refine Ki.out.round (u07.mono (λk _ e=>?_)) (HN4.out.keep u47 (λe=>?_)) ⟨_,o7,Mk.out.upd u7 (λk cs t fz hk _ _ e=>by omega)⟩ (HM4.out.upd u47 (λe=>?_))
         .rcases e with e|e|e|e
          .exact .inl e
          .exact .inr (.inl e)
          .exact .inr (.inr (.inl e))
          .have:=hbk _ e;exact .inr (.inr (.inr (by omega)))
         .rcases e with e|e
          .omega
          .have:=hbk _ e;omega
         .rcases e with e|e
          .omega
          .have:=hbk _ e;omega
        have hR7:aH (RdS W K b) W W7:=u07.mono (λk _ e=>by
         rw[HK.out];rcases e with e|e|e|e
         .exact .inl e
         .exact .inr (.inl e)
         .exact .inr (.inr (.inl e))
         .exact .inr (.inr (.inr ⟨hbk _ e,iD ZP.out k e⟩)))
        refine⟨Oq hR7 (by rw[HK.out];simp only;omega) (by rw[HK.out];simp only;omega) (by rw[HK.out];simp only;omega),HC.out.kp hR7 (λk hk=>by have:=HST.out k hk;omega) (by omega) hb,?_,xW.out.trans (u07.below xW.out.size (λk e=>by rcases e with e|e|e|e;omega;omega;omega;(have:=hbk _ e;omega))),bF Z_.out (bF YU.out.size vC.out.size)⟩;rw[HL.out,YR.out];exact hC7
     case leave=>
      as_aux_lemma=>
       rintro l b pre ⟨xb,ds⟩ W k hb ⟨hC,hBw,Z9⟩ ⟨hp,_,_,_,_,_⟩ hk hbx;clear hk hbx;obtain⟨L,hL⟩:∃L,qm (pre.map (λx=>gM T x.2 u))=L:=⟨_,rfl⟩;rw[hL]at hC;clear hL;have HC:=ah hC;rw[HK.out]at hC;have Rc:=hC.ord;simp only at Rc;have c0:=hC.uJ.cell (i:=0) rfl;have f0:=hC.uJ.frozen 0;simp only at c0 f0;have hpl:(400:Int)<(pre.length:Int)+1:=by omega
       have hpu:(pre.length:Int)<=400:=by omega
       have HO:=ah Rc;have Ki:=ah hC;have xW:=ah hBw;have Z_:=ah Z9;clear hC Rc hp hBw Z9
       gi_upto_region 12 with(fail)
       generalize hW1:World.setCell _ _ _=W1;have u1:aH (λk=>k=kn) W W1:=by rw[<-hW1];exact(aH.refl (λk=>k=kn) W).setCell (p:=⟨kn,0,none⟩) (.inl rfl) _
       have o1:Own W1 3 kn [.int .i64 ((pre.length:Int)+1)]:=by rw[<-hW1];exact Ki.out.uJ.set (i:=0) (by simp) _
       clear hW1 c0 f0;have n0:=o1.cell (i:=0) rfl;have lw:=HO.out;have q3:=Ki.out.Om.keep u1 (by simp only;omega);have q4:=Ki.out.Oo.keep u1 (by simp only;omega);simp only at q3 q4;have z3:=q3.cell (i:=0) rfl;have z4:=q4.cell (i:=0) rfl;have f3:=q3.frozen 0;have f4:=q4.frozen 0;have Af:=ah u1;have Ev:=ah q3;have Vr:=ah q4;clear u1 o1 lw q3 q4;gi_wp2;obtain⟨Wg,Vx⟩:∃Wg,Hid (Wg=(W1.setCell ⟨b3,0,none⟩ (.slice none 0 0)).setCell ⟨b4,0,none⟩ (.int .i64 3)):=⟨_,rfl⟩;rw[<-Vx.out];obtain⟨q3,q4,hu⟩:=uK Ev.out Vr.out n34 Vx.out;have lw:=HO.out;have l1:=sO.out;have l2:=Ra.out;have ug:aH (λk=>k=kn\/k=b3\/k=b4) W Wg:=(Af.out.mono (λ_ _ e=>.inl e)).trans hu (λ_ _ e=>.inr e);have hown:∀k,(k=kn\/k=b3\/k=b4)->k<X.B/\∃t cs,Own W t k cs/\¬Dc t:=λk e=>by
        rcases e with rfl|rfl|rfl
        .exact⟨by omega,_,_,Ki.out.uJ,by unfold Dc;decide⟩
        .exact⟨by omega,_,_,Ki.out.Om,by unfold Dc;decide⟩
        .exact⟨by omega,_,_,Ki.out.Oo,by unfold Dc;decide⟩
       refine⟨oC _ ug (λk o e hk=>by obtain⟨_,t,cs,h5,_⟩:=hown k e;exact h5.isCells hk),agw ug hown (λk hk=>by have:=HST.out k hk;omega) (by omega),q3,q4,xW.out.trans (ug.below xW.out.size (λk e=>?_)),bF Z_.out Af.out.size⟩;have l3:=Z0.out;have l4:=Z4.out.size;rcases e with e|e|e<;>omega
     case done=>
      as_aux_lemma=>
       rintro D b xs W hD hb ⟨hE,hxl⟩ ⟨hC,hBw,Z9⟩ hK;have HKD:=ah hK;clear hK;rw[HK.out]at hC;obtain⟨v,hv,hr⟩:=hC.X4;simp only at hv;obtain⟨rA,rc,rfl,_⟩:=hr.form;have Ki:=ah hC;have HR:=ah hr;have HV:=ah hv;have c1:=hv.cell (i:=0) rfl;have q3:=hC.Om;have q4:=hC.Oo;simp only at q3 q4;have z3:=q3.cell (i:=0) rfl;have z4:=q4.cell (i:=0) rfl;have f3:=q3.frozen 0;have f4:=q4.frozen 0;have Ev:=ah q3;have Vr:=ah q4;have xW:=ah hBw;have Li:=ah hE;have HXL:=ah hxl;clear hC hv hr q3 q4 hBw Z9 hE hxl;have HLX:Hid (qm (xs.map (λx=>gM T x.2 u))=qm ((xs.map Prod.snd).map (λx=>gM T x u))):=by show _=_;rw[List.map_map];rfl
       generalize qm (xs.map (λx=>gM T x.2 u))=L at Ki HR HV c1 HLX⊢;gi_wp2;obtain⟨Wg,Vx⟩:∃Wg,Hid (Wg=(W.setCell ⟨b3,0,none⟩ (.slice rA L.length rc)).setCell ⟨b4,0,none⟩ (.int .i64 0)):=⟨_,rfl⟩;rw[<-Vx.out];obtain⟨q3,q4,hu⟩:=uK Ev.out Vr.out n34 Vx.out;have l1:=R3.out.lt;have l2:=R4.out.lt;have l3:=sO.out;have l4:=Z4.out.size;have l5:=Z0.out;have hd:=hu.keep HKD.out (λe=>by rcases e with e|e<;>omega);refine⟨by simp,.inl ⟨_,_,rfl,run_takeDeferred hd,?_⟩⟩;have ht:=fI.putObj (S:=λk=>k=D) (.deferred none) rfl hd rfl;have hr2:kU Wg b (.slice rA L.length rc) L:=HR.out.upd hu (λk cs t fz hk _ _ e=>by rcases e with e|e<;>omega);have y3:=(q3.turn ht).cell (i:=0) rfl;have y4:=(q4.turn ht).cell (i:=0) rfl;have hr3:=hr2.upd ht (λk cs t fz hk hc _ hs=>by
        obtain⟨_,o,h1,h2⟩:=hs;rw[hc]at h1;cases h1
        cases h2)
       refine⟨.tuple #[.slice rA L.length rc,.int .i64 0],by simp[results,Tryz.results36,go_sem,y3,y4],L,0,rA,rc,rfl,hr3.nums.2,(xW.out.trans (hu.below xW.out.size (λk e=>by rcases e with e|e<;>omega))).trans (aH.below ht (bF xW.out.size hu.size) (λk e=>by have:=e.1;omega)),.inr ⟨Fy.out,hu0,hu1,.inr ⟨T,OO,xs.map Prod.snd,HFI.out,?_,.inr ⟨rfl,by rw[eF];exact HXL.out,HLX.out⟩⟩⟩⟩;have h:=Li.out;rw[YT.out]at h;exact h.choices X6.out Sz.out HKF.out
     case stop=>
      as_aux_lemma=>
       rintro D b xs W hD hb ⟨Y,hE,hY⟩ ⟨h3,h4,hBw,Z9⟩ hK;have HKD:=ah hK;clear hK;have z3:=h3.cell (i:=0) rfl;have z4:=h4.cell (i:=0) rfl;have H3:=ah h3;have H4:=ah h4;have xW:=ah hBw;have Li:=ah hE;have HYL:=ah hY;clear h3 h4 hBw Z9 hE hY;gi_wp2;refine⟨by simp,.inl ⟨_,_,rfl,run_takeDeferred HKD.out,?_⟩⟩;have ht:=fI.putObj (S:=λk=>k=D) (.deferred none) rfl HKD.out rfl;have y3:=(H3.out.turn ht).cell (i:=0) rfl;have y4:=(H4.out.turn ht).cell (i:=0) rfl;have l3:=sO.out;refine⟨.tuple #[.slice none 0 0,.int .i64 3],by simp[results,Tryz.results36,go_sem,y3,y4],[],3,none,0,rfl,BL _,xW.out.trans (aH.below ht xW.out.size (λk e=>by have:=e.1;omega)),.inr ⟨Fy.out,hu0,hu1,.inr ⟨T,OO,Y,HFI.out,?_,.inl ⟨rfl,rfl,HYL.out⟩⟩⟩⟩;have h:=Li.out;rw[YT.out]at h;exact h.choices X6.out Sz.out HKF.out
    .have HEV:=ah hev
     have z3:=R3.out.cell (i:=0) rfl;have z4:=R4.out.cell (i:=0) rfl;have f3:=R3.out.frozen 0;have f4:=R4.out.frozen 0;clear hev uT lW R1H;gi_wp2;obtain⟨Wg,Vx⟩:∃Wg,Hid (Wg=(Wf.setCell ⟨b3,0,none⟩ (.slice none 0 0)).setCell ⟨b4,0,none⟩ (.int .i64 23)):=⟨_,rfl⟩;rw[<-Vx.out];obtain⟨q3,q4,hu⟩:=uK R3.out R4.out n34 Vx.out;have y3:=q3.cell (i:=0) rfl;have y4:=q4.cell (i:=0) rfl;refine⟨.tuple #[.slice none 0 0,.int .i64 23],by simp[results,Tryz.results36,go_sem,y3,y4],[],23,none,0,rfl,BL _,Z4.out.trans (hu.below Z4.out.size (λk e=>by have:=Z0.out;rcases e with e|e<;>omega)),.inr ⟨Fy.out,hu0,hu1,.inl ⟨rfl,rfl,HEV.out⟩⟩⟩
   .have g1:¬(u<0):=by omega
    have g2:C.days<u:=by omega
    gi_wp2_with (refine⟨trivial,?_⟩;gi_at_call 12;refine(bQ.2 HFV.out).mono ?_;rintro e Z ⟨rfl,hz⟩;refine Hid.out ?_);refine ah ?_;have HZ:Hid (Below w.heap.size w Z):=ay HB.out hz;have P1:=ah (O1H.out.below hz);have P2:=ah (O2H.out.below hz);have P3:=ah (O3H.out.below hz);have P4:=ah (O4H.out.below hz);have z5:=(O0H.out.below hz).cell (i:=5) rfl;have z2:=P2.out.cell (i:=0) rfl;have z3:=P3.out.cell (i:=0) rfl;have z4:=P4.out.cell (i:=0) rfl;have f3:=P3.out.frozen 0;have f4:=P4.out.frozen 0;clear hz x0 x1 x2 x3 x4 x5 x6 y0 y1 y2;gi_wp2;obtain⟨Wf,lW⟩:∃Wf,Hid (Wf=(Z.setCell ⟨b3,0,none⟩ (.slice none 0 0)).setCell ⟨b4,0,none⟩ (.int .i64 1)):=⟨_,rfl⟩;rw[<-lW.out];obtain⟨q3,q4,hu⟩:=uK P3.out P4.out n34 lW.out;have y3:=q3.cell (i:=0) rfl;have y4:=q4.cell (i:=0) rfl;refine⟨.tuple #[.slice none 0 0,.int .i64 1],by simp[results,Tryz.results36,go_sem,y3,y4],[],1,none,0,rfl,BL _,HZ.out.trans (hu.below HZ.out.size (λk e=>by have:=Z0.out;rcases e with e|e<;>omega)),.inl ⟨rfl,rfl,λh=>by have:=h.2.2;omega⟩⟩
  .have g1:u<0:=by omega
   gi_wp2_with (refine⟨trivial,?_⟩;gi_at_call 12;refine(bQ.2 HFV.out).mono ?_;rintro e Z ⟨rfl,hz⟩;refine Hid.out ?_);refine ah ?_;have HZ:Hid (Below w.heap.size w Z):=ay HB.out hz;have P1:=ah (O1H.out.below hz);have P2:=ah (O2H.out.below hz);have P3:=ah (O3H.out.below hz);have P4:=ah (O4H.out.below hz);have z5:=(O0H.out.below hz).cell (i:=5) rfl;have z2:=P2.out.cell (i:=0) rfl;have z3:=P3.out.cell (i:=0) rfl;have z4:=P4.out.cell (i:=0) rfl;have f3:=P3.out.frozen 0;have f4:=P4.out.frozen 0;clear hz x0 x1 x2 x3 x4 x5 x6 y0 y1 y2;gi_wp2;obtain⟨Wf,lW⟩:∃Wf,Hid (Wf=(Z.setCell ⟨b3,0,none⟩ (.slice none 0 0)).setCell ⟨b4,0,none⟩ (.int .i64 1)):=⟨_,rfl⟩;rw[<-lW.out];obtain⟨q3,q4,hu⟩:=uK P3.out P4.out n34 lW.out;have y3:=q3.cell (i:=0) rfl;have y4:=q4.cell (i:=0) rfl;refine⟨.tuple #[.slice none 0 0,.int .i64 1],by simp[results,Tryz.results36,go_sem,y3,y4],[],1,none,0,rfl,BL _,HZ.out.trans (hu.below HZ.out.size (λk e=>by have:=Z0.out;rcases e with e|e<;>omega)),.inl ⟨rfl,rfl,λh=>by have:=h.2.1;omega⟩⟩
 .rw[show fZ C ⟨ho,F,O⟩=false by simpa using hok]at HFV
  gi_wp2_with (refine⟨trivial,?_⟩;gi_at_call 12;refine(bQ.2 HFV.out).mono ?_;rintro e Z ⟨rfl,hz⟩;refine Hid.out ?_);refine ah ?_;have HZ:Hid (Below w.heap.size w Z):=ay HB.out hz;have P1:=ah (O1H.out.below hz);have P2:=ah (O2H.out.below hz);have P3:=ah (O3H.out.below hz);have P4:=ah (O4H.out.below hz);have z5:=(O0H.out.below hz).cell (i:=5) rfl;have z2:=P2.out.cell (i:=0) rfl;have z3:=P3.out.cell (i:=0) rfl;have z4:=P4.out.cell (i:=0) rfl;have f3:=P3.out.frozen 0;have f4:=P4.out.frozen 0;clear hz x0 x1 x2 x3 x4 x5 x6 y0 y1 y2;gi_wp2;obtain⟨Wf,lW⟩:∃Wf,Hid (Wf=(Z.setCell ⟨b3,0,none⟩ (.slice none 0 0)).setCell ⟨b4,0,none⟩ (.int .i64 1)):=⟨_,rfl⟩;rw[<-lW.out];obtain⟨q3,q4,hu⟩:=uK P3.out P4.out n34 lW.out;have y3:=q3.cell (i:=0) rfl;have y4:=q4.cell (i:=0) rfl;refine⟨.tuple #[.slice none 0 0,.int .i64 1],by simp[results,Tryz.results36,go_sem,y3,y4],[],1,none,0,rfl,BL _,HZ.out.trans (hu.below HZ.out.size (λk e=>by have:=Z0.out;rcases e with e|e<;>omega)),.inl ⟨rfl,rfl,λh=>hok h.1⟩⟩
end Go.Proofs.YtpmdedcnbockhaaGreatDoor

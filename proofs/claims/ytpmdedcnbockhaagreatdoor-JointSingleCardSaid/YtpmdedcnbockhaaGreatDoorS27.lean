/- part -/
import Derived.Test.YtpmdedcnbockhaaGreatDoorS18
import Derived.Laws.EntriesVeiled
import Derived.Test.YtpmdedcnbockhaaGreatDoorS25
import Derived.Test.YtpmdedcnbockhaaGreatDoorS26
set_option maxRecDepth 100000
set_option maxHeartbeats 8000000
namespace Go.Proofs.YtpmdedcnbockhaaGreatDoor
section
open Go.RowKit Go.Shelf Tryz
theorem Pv(x:Int):(44:UInt8)∉Lib.itoa x:=qV (by decide) (.inl (by decide))
def lq(l:List Int):List UInt8:=l.flatMap (λx=>Lib.itoa x++[44])
theorem RZ(l:List Int)(x:Int):lq (l++[x])=lq l++Lib.itoa x++[44]:=by simp[lq]
theorem KX(l:List Int)(hl:∀x∈l, -9223372036854775808<=x/\x<=9223372036854775807):(lq l).length<=22*l.length:=by
 induction l with
 |nil=>simp[lq]
 |cons x l ih=>
  have h1:=ih (λy hy=>hl y (kG _ hy));have h2:=Lib.itoa_length_le _ (hl x (by simp)).1 (hl x (by simp)).2;show(Lib.itoa x++[44]++lq l).length<=_;simp only[mU,gV,kM];omega
theorem KY:∀{l m:List Int},lq l=lq m->l=m
 |[],[],_=>rfl
 |[],y::m,h=>by
  have h:([]:List UInt8)=Lib.itoa y++[44]++lq m:=h;simp at h
 |x::l,[],h=>by
  have h:Lib.itoa x++[44]++lq l=([]:List UInt8):=h;simp at h
 |x::l,y::m,h=>by
  have h:Lib.itoa x++[44]++lq l=Lib.itoa y++[44]++lq m:=h;rw[zX,zX]at h;have h1:=lQ (Pv x) (Pv y) h;rw[pW h1.1,KY h1.2]
theorem Za(l:List Int)(A:Option Addr)(c:Nat)(w:World)(hA:At w 1 A l.length c (aZ l))(hr:∀x∈l, -9223372036854775808<=x/\x<=9223372036854775807)(hl:l.length<=100000)(ht:Tab w):
 Calls prog 65 #[.slice A l.length c] w (dZ (.string ⟨(lq l).toArray⟩) w):=by
 have HA:=ah hA;clear hA;have HR:=ah hr;clear hr;have HT:=ah ht.agt;clear ht;go_enter func65,ntmps65;go_wp2
 go_loopw [3,8] (λv3 i wr=>∃k:Nat,k<=l.length/\i= .int .i64 k/\Hid (Bytes w.heap.size wr v3 (lq (l.take k)))/\Hid (Wrote w.heap.size w wr)) (λ_ i _=>l.length - (intOf i).toNat)
 case atStart=>exact⟨0,aU _,rfl,Bytes.nil _ _,Wrote.refl _ _⟩
 case round=>
  obtain⟨k,hk,rfl,HO,HW⟩:=hrel;by_cases hlt:k<l.length
  .obtain⟨x,hx⟩:∃x,l[k]?=some x:=⟨_,aS hlt⟩
   have hmem:=cK hx;obtain⟨hx0,hx1⟩:=HR.out _ hmem;have HAw:Hid (At wr 1 A l.length c (aZ l)):=HA.out.below (by omega) HW.out.below;obtain⟨b,off,hbA,hbl,hc0⟩:=HAw.out.1.form (by omega) (by omega);subst hbA;have e0:wr.cell? ⟨b,off+k,none⟩=some (.int .i64 x):=(hc0 k (by omega)).trans (ig hx);have hwl:=KX (l.take k) (λy hy=>HR.out y (List.mem_of_mem_take hy));rw[pz]at hwl;have U7:Hid (lq (l.take (k+1))=lq (l.take k)++Lib.itoa x++[44]):=by
    show _=_;rw[D_,hx,<-RZ];rfl
   have k0:(k:Int)<(l.length:Int):=by omega
   have hsz:=HW.out.below.size;have hl9:l.length<=9223372036854775807:=by omega
   clear hc0 hx hmem;go_wp2_with (first|(go_at_call 80;refine(uq HO.out x hx0 hx1 (by omega) (by omega) (HT.out.on HW.out.below)).mono ?_;rintro e w1 ⟨v1,rfl,h1,h2⟩;refine Hid.out ?_));refine ah ?_;have U8:=ah h1;clear h1;have HW1:=ah (HW.out.trans h2);clear h2;have hsz1:=HW1.out.below.size;have hil:=Lib.itoa_length_le _ hx0 hx1;go_wp2_with (at_builtin;refine wpList_append_byte rfl _ _ rfl w.heap.size _ _ rfl U8.out 44 44 rfl rfl (by rw[mU];omega) (by omega) ?_;intro v2 w2 h1 h2;refine Hid.out ?_);refine ah ?_;have EY:=ah h1;clear h1;have HW2:=ah (HW1.out.trans h2);clear h2;go_wp2
   go_roundw
   case rel=>exact⟨k+1,by omega,by go_num,by show Bytes _ _ _ _;rw[U7.out];exact EY.out,HW2⟩
   case measure=>simp[intOf];omega
  .obtain rfl:k=l.length:=by omega
   rw[iG]at HO;have Rj:=ah HW.out.below;obtain⟨tx,htx⟩:∃tx,tx=lq l:=⟨_,rfl⟩;rw[<-htx]at HO;have J2:=ah htx;clear htx;have hO:=HO.out;rcases hO.2 with⟨h1,h0⟩|⟨g,cap,cur,rfl,_,_,_,_,_,_⟩
   .have e0:tx=[]:=wZ h0
    subst h1 e0;have hcv:(convert 101 9 (.slice none 0 0)).run prog wr= .ok (.string ⟨#[]⟩) wr:=by
     rw[run_convert_bytes_string wr 101 9 5 none 0 0 underlying101 underlying5 underlying9];rfl
    go_wp2;go_ret;rw[<-J2.out];exact⟨rfl,Rj.out⟩
   .have hcv:=run_convert_bytes_back (P:=prog) wr 101 9 5 ⟨g,0,none⟩ cap tx underlying101 underlying5 underlying9 (λj hj=>World.ownsRow.cells hO (g:=g) rfl j _ (by simp[Lib.byteCells,hj]))
    go_wp2;go_ret;rw[<-J2.out];exact⟨rfl,Rj.out⟩
end
section
open Go.RowKit Go.Shelf Tryz
attribute [local go_sem] Oper.semAt_some
def COk(n:Nat)(w0 b:Nat)(pre:List (Nat×List Int))(x:Nat×List Int)(V:World):Prop:=pre.length<400/\x.2.length=n/\Own V 3 x.1 (aZ x.2)/\b<=V.heap.size/\w0<=x.1/\x.1<b
def ahM(n:Nat)(w0 b:Nat)(pre:List (Nat×List Int))(x:Nat×List Int)(V:World):Prop:=pre.length=400/\x.2.length=n/\Own V 3 x.1 (aZ x.2)/\b<=V.heap.size/\w0<=x.1/\x.1<b
theorem I7(n:Nat):aZ (List.replicate n 0)=(madeCells #[Value.int .i64 0] n).toList:=by
 apply lX;intro j;simp[aZ,madeCells];rcases iH j n with h|h
 .simp[h,Nat.mod_one]
 .simp[h]
theorem MK(s:Nat)(w:World):Calls prog 64 #[.pointer (some ⟨s,0,none⟩)] w (λe w'=>e= .returned (.func (.func 100) #[] #[.pointer (some ⟨w.heap.size,0,none⟩)])/\w'=w.alloc (.cells #[.pointer (some ⟨s,0,none⟩)] 122)):=by
 go_enter func64,ntmps64;go_wp2;go_ret;exact⟨rfl,rfl⟩
theorem ML{X:SX}{P:List (Nat×Nat)}{lo hi:Nat->Int}{A:Option Addr}{oc:Nat}{Bs:Nat}(n:Nat)(hn1:1<=n)(I:Nat->List (Nat×List Int)->World->Prop)(W:World)(hS:aO W X lo hi A oc [])(hBs:Own W 122 Bs [.pointer (some ⟨X.sb,0,none⟩)])(hB:Qc X.n lo hi P)(hrg:∀i,i<X.n-> -1000000<=lo i/\hi i<=1000000)(hLb:X.Lb=oz P X.n P.length)(hLa:X.La=oC P X.n P.length)(hn:X.n<=400)(hP:P.length<=4000):
 X6 Fence.wide n prog 100 #[.pointer (some ⟨Bs,0,none⟩)] (λ(_:Nat)(x:Nat×List Int)=>#[.slice (some ⟨x.1,0,none⟩) X.n X.n]) (λb=>Qo X (W.heap.size,b)) (λb=>ZT X Bs (W.heap.size,b)) I (COk X.n W.heap.size) (ahM X.n W.heap.size)
  (λxs=>kQ X.n lo hi P (xs.map Prod.snd)/\xs.length<=400) (λ_=>∃Y,kQ X.n lo hi P Y/\400<Y.length) W:=by
 intro l J JL WC hJ0 hJm ahN hY hYL;have Qg:=ah hJ0;clear hJ0;have HJM:=ah hJm;clear hJm;have aly:=ah ahN;clear ahN;have HY:=ah hY;clear hY;have HYL:=ah hYL;clear hYL;have HS:=ah hS;clear hS;have Qe:=ah hBs;clear hBs;have HB:=ah hB;clear hB;have Y6:=ah hrg;clear hrg;have HLB:=ah hLb;clear hLb;have HLA:=ah hLa;clear hLa;clear WC;have c1:W.cell? ⟨Bs,0,none⟩=some (.pointer (some ⟨X.sb,0,none⟩)):=Qe.out.cell rfl;have s0:W.cell? ⟨X.sb,0,none⟩=some (.slice (some ⟨X.bb,0,none⟩) X.n X.n):=HS.out.box.cell rfl;have l1:Bs<W.heap.size:=Qe.out.lt;have l2:X.sb<W.heap.size:=HS.out.box.lt;refine callsIn_of_wp func100 rfl trivial ?_ rfl;simp only[ntmps100,uF,gV,kM,Nat.reduceAdd,Nat.reduceSub,wz,wB,wE,wC,pE,wD]
 gi_upto_region 1 with(fail)
 generalize hW0:World.alloc _ _=W0;obtain⟨HB0,hh0⟩:=bx1 hW0;have HYB:Hid (Own W0 181 W.heap.size [.func (.yield l) #[] #[]]):=⟨[],by rw[bU];exact hh0⟩;have hs0:W0.heap.size=W.heap.size+1:=by rw[<-hW0,aT]
 clear hW0 hh0;have c2:W0.cell? ⟨Bs,0,none⟩=some (.pointer (some ⟨X.sb,0,none⟩)):=(HB0.out.cell (p:=⟨Bs,0,none⟩) l1).trans c1;have s2:W0.cell? ⟨X.sb,0,none⟩=some (.slice (some ⟨X.bb,0,none⟩) X.n X.n):=(HB0.out.cell (p:=⟨X.sb,0,none⟩) l2).trans s0;obtain⟨ip,hip,hpz,hps,hpb⟩:=info_parts' (P:=prog) (t:=3) (z:=some (.int .i64 0)) (s:=1) (b:=8) (by kernel_rfl);have hmk:=run_makeSlice (P:=prog) (w:=W0) 22 3 ip _ underlying22 hip hpz .i64 .i64 (X.n:Int) (X.n:Int) (by omega) (by omega) (by rw[hps];simp;omega) (by rw[hpb];omega) (by omega);simp only[sM,hps]at hmk;have ahO:=ah hs0;clear hs0
 gi_upto_region 3 with(fail)
 obtain⟨nb,hnb⟩:∃nb,nb=W0.heap.size:=⟨_,rfl⟩;rw[<-hnb];generalize hW1:World.alloc W0 _=W1;have hb1:Below W0.heap.size W0 W1:=by rw[<-hW1];exact aJ (aC _ _) _
 have ho1:Own W1 3 nb (aZ (List.replicate X.n 0)):=by
  refine⟨[],?_⟩;rw[bU,I7,Array.toArray_toList,<-hW1,hnb];exact bK W0 _
 have hs1:W1.heap.size=nb+1:=by rw[<-hW1,aT,hnb]
 clear hW1;generalize hW2:World.alloc W1 _=W2;have hb2:Below W1.heap.size W1 W2:=by rw[<-hW2];exact aJ (aC _ _) _
 have ho2:Own W2 22 (nb+1) [.slice (some ⟨nb,0,none⟩) X.n X.n]:=⟨[],by rw[<-hW2,<-hs1];exact bK W1 _⟩;have hs2:W2.heap.size=nb+1+1:=by rw[<-hW2,aT,hs1]
 clear hW2;generalize hW3:World.alloc W2 _=W3;have hb3:Below W2.heap.size W2 W3:=by rw[<-hW3];exact aJ (aC _ _) _
 have ho3:Own W3 92 (nb+1+1) [.nilFunc]:=⟨[],by rw[<-hW3,<-hs2];exact bK W2 _⟩;have hs3:W3.heap.size=nb+1+1+1:=by rw[<-hW3,aT,hs2]
 clear hW3;have U8:=ah ((ho1.below hb2).below hb3);have EY:=ah (ho2.below hb3);have HO3:=ah ho3;have HB3:Hid (Below W.heap.size W W3):=av (av (av HB0.out hb1) hb2) hb3;have alz:=ah (((HYB.out.below hb1).below hb2).below hb3);have Jt:=ah hs3;have Mc:Hid (nb=W.heap.size+1):=by show _=_;rw[hnb];exact ahO.out
 clear hb1 hb2 hb3 ho1 ho2 ho3 hs1 hs2 hs3 hnb hmk c1 c2 s0 s2 HYB ahO hip hpz hps hpb HB0;have v0:=HO3.out.cell (i:=0) rfl;have f0:=HO3.out.frozen 0
 gi_upto_region 4 with(fail)
 generalize hW4:World.setCell _ _ _=W4;have hu:aG (λk=>k=nb+1+1) W3 W4:=by rw[<-hW4];exact(aG.refl (λk=>k=nb+1+1) W3).setCell (p:=⟨nb+1+1,0,none⟩) (.inl rfl) _
 have ho4:Own W4 92 (nb+1+1) [.func (.func 101) #[] #[.pointer (some ⟨nb+1,0,none⟩),.pointer (some ⟨Bs,0,none⟩),.pointer (some ⟨W.heap.size,0,none⟩),.pointer (some ⟨nb+1+1,0,none⟩)]]:=by rw[<-hW4];exact HO3.out.set (i:=0) (by simp) _
 have hnb:=Mc.out;have Ci:Hid (Below W.heap.size W W4):=HB3.out.trans (hu.below HB3.out.size (λk hk=>by omega));have hz4:nb+3<=W4.heap.size:=by have:=hu.size;have:=Jt.out;omega
 have hlow:∀v,v∈X.vb\/v∈X.va->∀q,v.ownBlock=some q->q<W.heap.size:=λv hv q hq=>by
  rcases hv with hv|hv
  .exact(HS.out.vB.low v hv q hq).2.1
  .exact(HS.out.wW.low v hv q hq).2.1
 have HIT:Hid (DV W4 X Bs (W.heap.size,nb+3) l ⟨nb,W.heap.size,nb+1,nb+1+1⟩):=
  ⟨λk hk=>by simp only at hk⊢;omega,alz.out.keep hu (by omega),EY.out.keep hu (by omega),ho4,Qe.out.below Ci.out,⟨_,by simp,U8.out.keep hu (by omega)⟩,hlow,hz4⟩
 have HS4:=ah (HS.out.below Ci.out);have HJ4:Hid (J (nb+3) [] W4):=Qg.out (nb+3) W4 Ci.out (by omega);have hYD:FU X Bs (W.heap.size,nb+3) l nb (λpre V=>J (nb+3) (pre.map (λy=>(nb,y))) V) (λpre V=>JL (nb+3) (pre.map (λy=>(nb,y))) V):=by
  refine⟨λpre x V h hok=>?_,λpre x V h hok=>?_,λpre V V' h hm=>HJM.out _ _ _ _ h hm,λpre V V' h hm=>aly.out _ _ _ _ h hm⟩
  .have h1:=HY.out (nb+3) (pre.map (λy=>(nb,y))) (nb,x) V h ⟨by rw[dU];exact hok.1,hok.2.1,hok.2.2.1,hok.2.2.2,by simp only;omega,by simp only;omega⟩
   rw[show pre.map (λy=>(nb,y))++[(nb,x)]=(pre++[x]).map (λy=>(nb,y)) by simp]at h1;exact YieldAt.depth rfl h1
  .have h1:=HYL.out (nb+3) (pre.map (λy=>(nb,y))) (nb,x) V h ⟨by rw[dU];exact hok.1,hok.2.1,hok.2.2.1,hok.2.2.2,by simp only;omega,by simp only;omega⟩
   rw[show pre.map (λy=>(nb,y))++[(nb,x)]=(pre++[x]).map (λy=>(nb,y)) by simp]at h1;exact YieldAt.depth rfl h1
 have hv:=VQ (I:=⟨nb,W.heap.size,nb+1,nb+1+1⟩) (ah hYD) HLB HLA hn hP X.n 0 (by omega) lo hi A oc [] [] W4 HS4.out HB.out (λi hi'=>absurd hi' (Nat.not_lt_zero _)) Y6.out HIT.out HJ4.out (by simp) (by simp);rw[show(((0:Nat)):Int)=0 from rfl]at hv;have HV:=ah hv;have v4:=ho4.cell (i:=0) rfl;clear hv hYD hlow hz4 hnb ho4 hu hW4 v0 f0;gi_wp2_with (refine⟨trivial,?_⟩;gi_at_call 101;refine(fq.2 HV.out).mono ?_;rintro e W5 ⟨more,Z,A5,VK,rfl,hz,hsz5,Y8,aa_,hs5,hmt,wV⟩;refine Hid.out ?_);refine ah ?_;have HZ:=ah hz;have HMT:=ah hmt;have O7:=ah wV;clear hz hsz5 Y8 aa_ hs5 hmt wV;gi_wp2
 go_end0
 refine⟨⟨_,rfl⟩,nb+3,by have:=Mc.out;omega,?_⟩;cases more with
 |true=>
  obtain⟨h1,h2⟩:=HMT.out rfl;rw[pE]at h1 h2;exact .inl ⟨_,⟨by rw[List.map_map,show(Prod.snd∘λy:List Int=>(nb,y))=id from rfl,List.map_id];exact HZ.out,by rw[dU];exact h1⟩,h2⟩
 |false=>
  obtain⟨h1,Y1,h2⟩:=O7.out rfl;rw[pE]at h1 h2;exact .inr ⟨_,⟨Z,HZ.out,h1⟩,h2⟩
end
section
open Go.RowKit Go.Shelf Tryz
def nX(r:List (List Int))(x:List Int):List (List Int):=if x∈r then r else r++[x]
def qL(l:List (List Int)):List (List Int):=l.foldl nX []
theorem Bb(l:List (List Int))(x:List Int):qL (l++[x])=nX (qL l) x:=by unfold qL;rw[uG];rfl
theorem VT(l:List (List Int))(x:List Int):x∈qL l↔x∈l:=by
 induction l using qQ with
 |h0=>rfl
 |h1 l a ih=>
  rw[Bb,nX,jU,eB];by_cases h:a∈qL l
  .rw[if_pos h,ih]
   constructor
   .exact .inl
   .rintro(h1|rfl)
    .exact h1
    .exact ih.1 h
  .rw[if_neg h,jU,eB,ih]
theorem VU(l:List (List Int)):(qL l).length<=l.length:=by
 induction l using qQ with
 |h0=>exact bJ _
 |h1 l a ih=>
  rw[Bb,nX,mU];split
  .omega
  .rw[mU];simp only[rP];omega
theorem R5{F:List ay}{D:List Int}{u:Int}{a:Int}(h:a∈gY F D u):a= -1\/∃x∈F,x.act=a:=by
 unfold gY at h;split at h
 .rename_i hc
  obtain⟨d,_,hd⟩:=Br.1 h;unfold xL at hd;rcases jU.1 hd with hd|hd
  .obtain⟨r,hr,rfl⟩:=cZ.1 hd
   rw[rD,vN]at hr;obtain⟨i,x,hi,_,rfl⟩:=hr;have hx:=cK hi;exact .inr ⟨x,hx,(Da hc.2.2.2 hx).symm⟩
  .exact .inl (eB.1 hd)
 .cases h
theorem VW{F:List ay}{D:List Int}{u:Int}:(gY F D u).length<=F.length+u.toNat:=by
 unfold gY;split
 .rename_i hc
  exact Ct hc.1 hc.2.2.2 _
 .simp
def InT(l:List Int):Prop:=(lq l).length<=maxLen
def I8(l:List Int):Lit:=.string (lq l)
theorem Zb(x y:List Int)(_:InT x)(_:InT y)(h:I8 x=I8 y):x=y:=by
 unfold I8 at h;injection h with h
 exact KY h
theorem ahP:Maps.Keyed prog 9:=Maps.string_keyed underlying9
theorem ahQ{l:List Int}(hl:InT l):keyOf prog 9 (.string ⟨(lq l).toArray⟩)=some (I8 l):=by
 have h:=WideMaps.keyOf_string_mk (P:=prog) underlying9 (s:=⟨(lq l).toArray⟩) (by unfold InT at hl;simpa [ByteArray.size]using hl);simpa [I8]using h
def Bc(L:List (List Int))(l:List Int):Option Value:=if l∈L then some (.bool true)else none
theorem Zc:Bc []=λ_=>none:=by funext l;simp[Bc]
theorem VX(L:List (List Int))(x l:List Int):(if l=x then some (Value.bool true)else Bc L l)=Bc (L++[x]) l:=by
 unfold Bc;by_cases h:l=x
 .rw[if_pos h,if_pos (by simp[h])]
 .rw[if_neg h]
  by_cases h2:l∈L
  .rw[if_pos h2,if_pos (by simp[h2])]
  .rw[if_neg h2,if_neg (by simp[h,h2])]
theorem DW{w:World}{B:Nat}{e:TypeId}{n c:Nat}{A:Option Addr}{xs:List Value}(h:w.ownsRow B e 1 (.slice A n c) n xs)(h1:∀u∈xs,u.oneCell'=true):At w 1 A n c xs:=by
 have hl:=h.1;rcases su h with⟨rfl,rfl,rfl⟩|⟨g,rfl,_,ho⟩
 .have e:xs=[]:=wZ (by omega)
  subst e;exact gD _ _
 .refine ho.C8 hl h1 ?_ ?_
  .rcases h.2 with⟨h2,_⟩|⟨_,_,_,h2,_,_,h3,_⟩
   .simp at h2
   .simp only[Value.slice.injEq]at h2;omega
  .rcases h.2 with⟨h2,_⟩|⟨_,_,_,h2,_,_,_,h3,_⟩
   .simp at h2
   .simp only[Value.slice.injEq]at h2;omega
def lU(V:World)(b:Nat)(v:Value)(L:List (List Int)):Prop:=
 ∃ts:List SV,ts.length=L.length/\V.ownsRow b 22 1 v L.length ((L.zip ts).map (λp=>Value.slice p.2.A p.1.length p.2.c))/\∀(i:Nat)(l:List Int)(t:SV),L[i]?=some l->ts[i]?=some t->V.ownsRow b 3 1 (.slice t.A l.length t.c) l.length (aZ l)
theorem lU.nil(V:World)(b:Nat):lU V b (.slice none 0 0) []:=⟨[],rfl,World.ownsRow_nil _ _ _ _,λi l t h=>by simp at h⟩
theorem lU.upd{S:Nat->Prop}{V V':World}{b:Nat}{v:Value}{L:List (List Int)}(h:lU V b v L)(hu:aG S V V')(hS:∀(k:Nat)(cs:Array Value)(t:TypeId)(fz:Nat×Nat),b<=k->V.heap[k]?=some (.cells cs t fz)->(t=22\/t=3)->¬S k):lU V' b v L:=by
 obtain⟨ts,h1,h2,h3⟩:=h;refine⟨ts,h1,bV h2 hu (λk hk=>?_),λi l t hl ht=>bV (h3 i l t hl ht) hu (λk hk=>?_)⟩
 .obtain⟨cs,fz,h4⟩:=iO h2 k hk
  exact hS k _ _ _ (h2.lt k hk).1 h4 (.inl rfl)
 .obtain⟨cs,fz,h4⟩:=iO (h3 i l t hl ht) k hk
  exact hS k _ _ _ ((h3 i l t hl ht).lt k hk).1 h4 (.inr rfl)
theorem lU.below{V V':World}{b:Nat}{v:Value}{L:List (List Int)}(h:lU V b v L)(hb:Below V.heap.size V V'):lU V' b v L:=
 h.upd (S:=λ_=>False) ⟨hb.os,hb.tape,hb.output,hb.size,λk hk _=>hb.block k hk⟩ (λ_ _ _ _ _ _ _ h=>h)
theorem lU.form{V:World}{b:Nat}{v:Value}{L:List (List Int)}(h:lU V b v L):∃A c,v= .slice A L.length c/\sF V ⟨A,c⟩ L:=by
 obtain⟨ts,h1,h2,h3⟩:=h;obtain⟨A,c,rfl⟩:=ownsRow_form h2;refine⟨A,c,rfl,ts,h1,DW h2 (λu hu=>?_),λi l t hl ht=>DW (h3 i l t hl ht) (λu hu=>?_)⟩
 .obtain⟨p,_,rfl⟩:=cZ.1 hu
  rfl
 .obtain⟨x,_,rfl⟩:=cZ.1 hu
  rfl
theorem lU.nums{V:World}{b:Nat}{A:Option Addr}{c n:Nat}{L:List (List Int)}(h:lU V b (.slice A n c) L):n=L.length/\sF V ⟨A,c⟩ L:=by
 obtain⟨A',c',e,hn⟩:=h.form;injection e with e1 e2 e3
 subst e1 e2 e3;exact⟨rfl,hn⟩
theorem lU.snoc{V V2:World}{b g c':Nat}{v:Value}{L:List (List Int)}{x:List Int}{t:SV}{ts:List SV}(h1:ts.length=L.length)(h2:V.ownsRow b 22 1 v L.length ((L.zip ts).map (λp=>Value.slice p.2.A p.1.length p.2.c)))
 (h3:∀(i:Nat)(l:List Int)(t:SV),L[i]?=some l->ts[i]?=some t->V.ownsRow b 3 1 (.slice t.A l.length t.c) l.length (aZ l))(hx:V.ownsRow b 3 1 (.slice t.A x.length t.c) x.length (aZ x))
 (ho:V2.ownsRow b 22 1 (.slice (some ⟨g,0,none⟩) (L.length+1) c') (L.length+1) ((L.zip ts).map (λp=>Value.slice p.2.A p.1.length p.2.c)++[.slice t.A x.length t.c]))(hu:aG (λk=>v.ownBlock=some k) V V2):lU V2 b (.slice (some ⟨g,0,none⟩) (L.length+1) c') (L++[x]):=by
 have hl:(L++[x]).length=L.length+1:=by simp
 have hint:∀{l:List Int}{u:Value},V.ownsRow b 3 1 u l.length (aZ l)->V2.ownsRow b 3 1 u l.length (aZ l):=λh4=>bV h4 hu (λk hk hs=>by
  obtain⟨cs,fz,h5⟩:=iO h4 k hk;exact cO h2 h5 (by decide) hs)
 refine⟨ts++[t],by simp[h1],?_,λi l s hi hs=>?_⟩
 .rw[hl,List.zip_append h1.symm,pG]
  exact ho
 .rcases iH i L.length with hi2|hi2
  .rw[kH hi2]at hi
   rw[kH (by omega)]at hs;exact hint (h3 i l s hi hs)
  .have hi3:i<(L++[x]).length:=(bB.1 hi).1
   have e:i=L.length:=by omega
   subst e;rw[lW (bJ _),Nat.sub_self,Bu,Option.some.injEq]at hi;rw[lW (by omega),h1,Nat.sub_self,Bu,Option.some.injEq]at hs;subst hi hs;exact hint hx
structure CB where
 cb:Nat
 fb:Nat
 ub:Nat
 rr:Nat
 er:Nat
 mb:Nat
 rb:Nat
 nb:Nat
 m:Nat
structure Ju(V:World)(B b:Nat)(K:CB)(tv:FV)(ho:Int)(T:List ay)(OO:List aX)(u:Int)(n:Nat)(L:List (List Int)):Prop where
 R6:Own V 31 K.fb (tv.cells ⟨ho,T,OO⟩)
 aem:Own V 3 K.ub [.int .i64 u]
 Pw:Own V 84 K.rr [.slice none 0 0]
 Px:Own V 37 K.er [.int .i64 0]
 DX:Own V 119 K.mb [.map (some K.m)]
 Zd:∃v,Own V 84 K.rb [v]/\lU V b v L
 u6:Own V 3 K.nb [.int .i64 n]
 facts:At V 6 tv.f.A T.length tv.f.c (bH T)
 map:eD InT 9 I8 V K.m L.length (Bc L)
 fl:0<T.length->∀k off,tv.f.A=some ⟨k,off,none⟩->k<K.m
 ord:K.fb<K.m/\K.ub<K.m/\K.rr<K.m/\K.er<K.m/\K.m<K.mb/\K.mb<K.rb/\K.rb<K.nb/\K.nb<B
theorem R7{S:Nat->Prop}{w w':World}{size n c:Nat}{A:Option Addr}{xs:List Value}(h:At w size A n c xs)(hs:0<size)(hu:aG S w w')(hS:0<n->∀b off,A=some ⟨b,off,none⟩->¬S b):At w' size A n c xs:=by
 rcases Nat.eq_zero_or_pos n with h0|h0
 .subst h0;exact⟨⟨h.1.1,h.1.2.1,λh=>absurd h (Nat.lt_irrefl 0)⟩,h.2⟩
 .exact uS h hs hu (hS h0)
theorem Own.lC{w w':World}{t:TypeId}{k B:Nat}{cs:List Value}(h:Own w t k cs)(hk:k<B)(hb:Below B w w'):Own w' t k cs:=by
 obtain⟨tl,h⟩:=h;exact⟨tl,(hb.block k hk).trans h⟩
theorem Ju.lC{V V':World}{B b:Nat}{K:CB}{tv:FV}{ho:Int}{T:List ay}{OO:List aX}{u:Int}{n:Nat}{L:List (List Int)}(h:Ju V B b K tv ho T OO u n L)(hb:Below B V V')(hr:∀v,lU V b v L->lU V' b v L):Ju V' B b K tv ho T OO u n L:=by
 obtain⟨v,h1,h2⟩:=h.Zd;have lw:=h.ord;refine⟨h.R6.lC (by omega) hb,h.aem.lC (by omega) hb,h.Pw.lC (by omega) hb,h.Px.lC (by omega) hb,h.DX.lC (by omega) hb,⟨v,h1.lC (by omega) hb,hr v h2⟩,h.u6.lC (by omega) hb,?_,h.map.below (show K.m<B by omega) hb,h.fl,h.ord⟩;exact R7 h.facts (by omega) (aG.of_below hb) (λh0 k off e hk=>by have:=h.fl h0 k off e;omega)
theorem Ju.below{V V':World}{B b:Nat}{K:CB}{tv:FV}{ho:Int}{T:List ay}{OO:List aX}{u:Int}{n:Nat}{L:List (List Int)}(h:Ju V B b K tv ho T OO u n L)(hB:B<=V.heap.size)(hb:Below V.heap.size V V'):Ju V' B b K tv ho T OO u n L:=
 h.lC (hb.mono hB) (λ_ hr=>hr.below hb)
theorem Qo.lC{X:SX}{w0 b:Nat}{V V':World}(h:Qo X (w0,b) V V')(hB:X.B<=w0)(hV:X.B<=V.heap.size):Below X.B V V':=
 aG.below h hV (λk hk=>by
  rcases hk with hk|hk
  .have:=hk.1;simp only at this;omega
  .exact hk.1)
theorem Ju.mv{X:SX}{w0:Nat}{V V':World}{b:Nat}{K:CB}{tv:FV}{ho:Int}{T:List ay}{OO:List aX}{u:Int}{n:Nat}{L:List (List Int)}(h:Ju V X.B b K tv ho T OO u n L)(hm:Qo X (w0,b) V V')(hB:X.B<=w0)(hV:X.B<=V.heap.size):Ju V' X.B b K tv ho T OO u n L:=
 h.lC (hm.lC hB hV) (λv hr=>hr.upd hm (λk cs t fz hk hc ht hs=>by
  rcases hs with hs|⟨_,cs',t',fz',h1,h2,_⟩
  .have:=hs.2;simp only at this;omega
  .rw[hc]at h1
   injection h1 with h1
   injection h1 with _ h1 _
   subst h1;unfold DT at h2;rcases ht with rfl|rfl
   .revert h2;decide
   .revert h2;decide))
theorem Ju.turn{V V':World}{D B b:Nat}{K:CB}{tv:FV}{ho:Int}{T:List ay}{OO:List aX}{u:Int}{n:Nat}{L:List (List Int)}(h:Ju V B b K tv ho T OO u n L)(ht:uT D V V')(hB:B<=D)(hV:B<=V.heap.size):Ju V' B b K tv ho T OO u n L:=
 h.lC (aG.below ht hV (λk hk=>by have:=hk.1;omega)) (λv hr=>hr.upd ht (λk cs t fz hk hc _ hs=>by
  obtain⟨_,o,h1,h2⟩:=hs;rw[hc]at h1;cases h1
  cases h2))
theorem Ju.round{V V':World}{B b:Nat}{K:CB}{tv:FV}{ho:Int}{T:List ay}{OO:List aX}{u:Int}{n:Nat}{L L':List (List Int)}(h:Ju V B b K tv ho T OO u n L)(hu:aG (λk=>k=K.nb\/k=K.m\/k=K.rb\/B<=k) V V')(hn:Own V' 3 K.nb [.int .i64 (n+1:Nat)])
 (hr:∃v,Own V' 84 K.rb [v]/\lU V' b v L')(hm:eD InT 9 I8 V' K.m L'.length (Bc L')):Ju V' B b K tv ho T OO u (n+1) L':=by
 have lw:=h.ord;exact⟨h.R6.keep hu (by omega),h.aem.keep hu (by omega),h.Pw.keep hu (by omega),h.Px.keep hu (by omega),h.DX.keep hu (by omega),hr,hn,R7 h.facts (by omega) hu (λh0 k off e hk=>by have:=h.fl h0 k off e;omega),hm,h.fl,h.ord⟩
theorem eD.isMap{α:Type}{P:α->Prop}{K:TypeId}{enc:α->Lit}{w:World}{b n:Nat}{g:α->Option Value}(h:eD P K enc w b n g):∃es c,w.heap[b]?=some (.map es c):=by
 obtain⟨D,⟨es,c,hb,_⟩,_⟩:=h;exact⟨es,c,hb⟩
def RdS(V:World)(K:CB)(b:Nat)(k:Nat):Prop:=k=K.nb\/k=K.m\/k=K.rb\/(b<=k/\∃cs fz,V.heap[k]?=some (.cells cs 22 fz))
theorem Ju.kp{X:SX}{w0 Bs:Nat}{V V':World}{b:Nat}{K:CB}{tv:FV}{ho:Int}{T:List ay}{OO:List aX}{u:Int}{n:Nat}{L:List (List Int)}(h:Ju V X.B b K tv ho T OO u n L)(hu:aG (RdS V K b) V V')(hst:∀k,StX X Bs k->X.B<=k/\k<w0)(hw:X.B<=w0)(hb:w0<=b):ZT X Bs (w0,b) V V':=by
 have lw:=h.ord;obtain⟨v,hv,_⟩:=h.Zd;refine⟨hu.size,λk cs t fz hc hs=>hu.keep hc (λhr=>?_)⟩;have Ka:X.B<=k\/DT t:=by
  rcases hs with hs|hs|hs
  .exact .inl (hst k hs).1
  .have:=hs.1;simp only at this;exact .inl (by omega)
  .exact .inr hs
 have ty:∀{t':TypeId}{cs':List Value},Own V t' k cs'->t'=t:=λho=>by
  obtain⟨tl,ho⟩:=ho;rw[hc]at ho;injection ho with ho
  injection ho with _ ho _
  exact ho.symm
 rcases hr with rfl|rfl|rfl|⟨hbk,cs',fz',h1⟩
 .rcases Ka with Ka|Ka
  .omega
  .rw[<-ty h.u6]at Ka;revert Ka;unfold DT;decide
 .obtain⟨es,c,hm⟩:=h.map.isMap
  rw[hc]at hm;cases hm
 .rcases Ka with Ka|Ka
  .omega
  .rw[<-ty hv]at Ka;revert Ka;unfold DT;decide
 .rw[hc]at h1
  injection h1 with h1
  injection h1 with _ h1 _
  subst h1;rcases hs with hs|hs|hs
  .have:=hst k hs;omega
  .have:=hs.2;simp only at this;omega
  .revert hs;unfold DT;decide
theorem ahR{X:SX}{w0 Bs:Nat}{V V':World}{b:Nat}{S:Nat->Prop}(hu:aG S V V')(hS:∀k,S k->k<X.B/\∃t cs,Own V t k cs/\¬DT t)(hst:∀k,StX X Bs k->X.B<=k/\k<w0)(hw:X.B<=w0):ZT X Bs (w0,b) V V':=
 ⟨hu.size,λk cs t fz hc hs=>hu.keep hc (λe=>by
  obtain⟨h1,t',cs',⟨tl,ho⟩,h2⟩:=hS k e;rw[hc]at ho;injection ho with ho
  injection ho with _ ho _
  subst ho;rcases hs with hs|hs|hs
  .have:=(hst k hs).1;omega
  .have:=hs.1;simp only at this;omega
  .exact h2 hs)⟩
theorem Py{V V':World}{K:CB}{b D:Nat}(hu:aG (RdS V K b) V V')(h1:K.nb<D)(h2:K.m<D)(h3:K.rb<D):KeepsFrom D V V':=by
 refine⟨hu.size,λk o hD hk ho=>hu.keep hk (λhr=>?_)⟩;rcases hr with rfl|rfl|rfl|⟨_,cs,fz,h4⟩
 .omega
 .omega
 .omega
 .rw[hk]at h4
  cases h4
  cases ho
end
open Go.RowKit Go.Shelf Tryz
attribute [local go_sem] Oper.semAt_some
def zI(C:au)(f:bR)(u:Int)(L:List (List Int))(er:Int):Prop:=
 (er=1/\L=[]/\¬(gN C f=true/\0<=u/\u<=C.days))\/
 (gN C f=true/\0<=u/\u<=C.days/\((er=23/\L=[]/\Xu f.facts f.orders)\/
  ∃T OO Y,tY f.facts f.orders T OO/\rC T OO u Y/\((er=3/\L=[]/\400<Y.length)\/(er=0/\Y.length<=400/\L=qL (Y.map (λD=>gY T D u))))))
def VY(C:au)(f:bR)(u:Int)(w:World)(e:Ending)(w':World):Prop:=
 ∃(L:List (List Int))(er:Int)(A:Option Addr)(c:Nat),e= .returned (.tuple #[.slice A L.length c,.int .i64 er])/\sF w' ⟨A,c⟩ L/\Below w.heap.size w w'/\zI C f u L er
theorem u_{Z Wf:World}{t t':TypeId}{a c:Nat}{x y u v:Value}(h1:Own Z t a [x])(h2:Own Z t' c [y])(hne:¬(a=c))(hW:Wf=(Z.setCell ⟨a,0,none⟩ u).setCell ⟨c,0,none⟩ v):Own Wf t a [u]/\Own Wf t' c [v]/\aG (λk=>k=a\/k=c) Z Wf:=by
 subst hW;have u1:aG (λk=>k=a) Z (Z.setCell ⟨a,0,none⟩ u):=(aG.refl (λk=>k=a) Z).setCell (p:=⟨a,0,none⟩) (.inl rfl) _;have u2:aG (λk=>k=c) (Z.setCell ⟨a,0,none⟩ u) ((Z.setCell ⟨a,0,none⟩ u).setCell ⟨c,0,none⟩ v):=(aG.refl (λk=>k=c) _).setCell (p:=⟨c,0,none⟩) (.inl rfl) _;exact⟨(h1.set (i:=0) (by simp) u).keep u2 hne,(h2.keep u1 (λe=>hne e.symm)).set (i:=0) (by simp) v,(u1.mono (λ_ _ e=>.inl e)).trans u2 (λ_ _ e=>.inr e)⟩
theorem R8{C:au}{f:bR}(h:gN C f=true):f.facts.length<=4000/\f.orders.length<=4000:=by
 simp only[gN,bS,jk,oh,decide_eq_false_iff_not]at h;have:=h.2.2.1;omega
theorem sG{C:au}{x:ay}(h:sV C x=true):1<=x.ref/\x.ref<=1000000/\0<=x.act/\x.act<(C.acts.length:Int)/\0<=x.low/\x.low<=x.high/\x.high<C.days:=by
 simp only[sV,nD,bS,decide_eq_true_eq]at h;exact⟨h.1,h.2.1,h.2.2.1,h.2.2.2.1,h.2.2.2.2.1,h.2.2.2.2.2.1,h.2.2.2.2.2.2.1⟩
theorem Ud{i:Int}(h0: -9223372036854775808<=i)(h1:i<=9223372036854775807):iK i:=by
 have e0:IntKind.i64.min= -9223372036854775808:=by decide
 have e1:IntKind.i64.max=9223372036854775807:=by decide
 simp only[iK,Lit.wf,bS,decide_eq_true_eq,e0,e1];exact⟨h0,h1⟩
theorem Ze{z Wf:World}{t:TypeId}{rs:Nat}{x0 x1 x2 a b c:Value}(h:Own z t rs [x0,x1,x2])(hW:Wf=((z.setCell ⟨rs,0,none⟩ a).setCell ⟨rs,1,none⟩ b).setCell ⟨rs,2,none⟩ c):Own Wf t rs [a,b,c]/\aG (λk=>k=rs) z Wf:=by
 subst hW;refine⟨((h.set (i:=0) (by simp) a).set (i:=1) (by simp) b).set (i:=2) (by simp) c,?_⟩;exact(((aG.refl (λk=>k=rs) _).setCell (.inl rfl) _).setCell (.inl rfl) _).setCell (.inl rfl) _
theorem tK{C:au}{f:bR}(h:gN C f=true):C.days<=2000/\C.acts.length<=60:=by
 simp only[gN,bS]at h;have h:=h.1;simp only[au.valid,au.over,bS,jk,oh,decide_eq_false_iff_not]at h;omega
theorem Pz{F T:List ay}{OO:List aX}{u:Int}(h:jD F T OO)(hp:∀x∈F,0<=x.low)(h0:0<=u)(h1:u<=2000):∀i,i<T.length-> -1000000<=JK T u i/\JM T u i<=1000000:=λi hi=>by
 have e:T[i]?=some T[i]:=aS hi;unfold JK JM;rw[getD_map e,getD_map e];obtain⟨x,hx,hr⟩:=h.had (zZ hi);have h2:=h.leL x hx _ (zZ hi) (j3 hr);have h3:=hp x hx;omega
theorem Cz(w:World):sF w ⟨none,0⟩ []:=⟨[],rfl,gD _ _,λi l t h=>by simp at h⟩
theorem Fv(v:CV)(C:au)(fv:FV)(f:bR)(u:Int)(w:World)(hC:bO w v C)(hF:gJ w fv f)(hn:f.facts.length<=400)(hT:Tab w):
 Calls prog 36 #[v.val C,fv.val f,.int .i64 u] w (VY C f u w):=by
 obtain⟨⟨dV,dW⟩,⟨dX,dY⟩,⟨fB,dH⟩,⟨eZ,dM⟩,⟨dQ,dR⟩⟩:=v;obtain⟨⟨fA,fc⟩,⟨oA,oc⟩⟩:=fv;obtain⟨ho,F,O⟩:=f;simp only at hn;have HC:=ah hC;clear hC;have HF:=ah hF;clear hF;have HT:=ah hT;clear hT;simp only[CV.val,CV.cells,FV.val,FV.cells];refine(fq (n:=6)).1 ?_;refine callsIn_of_wp_marks func36 rfl trivial ?_ rfl;simp only[ntmps36,uF,gV,kM,Nat.reduceAdd,Nat.reduceSub,wz,wB,wE,wC,pE,wD]
 gi_upto_region 1 with(fail)
 generalize hW0:World.alloc _ _=W0;obtain⟨HB,hh0,gG,qd,hh3,Qh⟩:=bx5 hW0;clear hW0;have O0:Own W0 27 w.heap.size _:=⟨[],by rw[bU];exact hh0⟩;have O1:Own W0 31 (w.heap.size+1) [.int .i64 ho,.slice fA F.length fc,.slice oA O.length oc]:=⟨[],by rw[bU];exact gG⟩;have O2:Own W0 3 (w.heap.size+2) [.int .i64 u]:=⟨[],by rw[bU];exact qd⟩;have O3:Own W0 84 (w.heap.size+3) [.slice none 0 0]:=⟨[],by rw[bU];exact hh3⟩;have O4:Own W0 37 (w.heap.size+4) [.int .i64 0]:=⟨[],by rw[bU];exact Qh⟩;clear hh0 gG qd hh3 Qh;generalize hb4:w.heap.size+1+1+1+1=b4 at O4⊢;generalize hb3:w.heap.size+1+1+1=b3 at O3⊢;generalize hb2:w.heap.size+1+1=b2 at O2⊢;generalize hb1:w.heap.size+1=b1 at O1⊢;generalize hb0:w.heap.size=b0 at O0⊢;have HNM:Hid (w.heap.size=b0/\w.heap.size+1=b1/\w.heap.size+2=b2/\w.heap.size+3=b3/\w.heap.size+4=b4):=⟨hb0,hb1,hb2,hb3,hb4⟩;clear hb0 hb1 hb2 hb3 hb4;have n34:¬(b3=b4):=by have:=HNM.out;omega
 have n43:¬(b4=b3):=by have:=HNM.out;omega
 have O0H:=ah O0;have O1H:=ah O1;have O2H:=ah O2;have O3H:=ah O3;have O4H:=ah O4;have x0:=O0.cell (i:=0) rfl;have x1:=O0.cell (i:=1) rfl;have x2:=O0.cell (i:=2) rfl;have x3:=O0.cell (i:=3) rfl;have x4:=O0.cell (i:=4) rfl;have x5:=O0.cell (i:=5) rfl;have x6:=O0.cell (i:=6) rfl;have y0:=O1.cell (i:=0) rfl;have y1:=O1.cell (i:=1) rfl;have y2:=O1.cell (i:=2) rfl;clear O0 O1 O2 O3 O4;have HFV:=ah (Ai ⟨⟨dV,dW⟩,⟨dX,dY⟩,⟨fB,dH⟩,⟨eZ,dM⟩,⟨dQ,dR⟩⟩ C ⟨⟨fA,fc⟩,⟨oA,oc⟩⟩ ⟨ho,F,O⟩ W0 (HC.out.below HB.out) (HF.out.below HB.out));by_cases hok:gN C ⟨ho,F,O⟩=true
 .rw[hok]at HFV
  have Gf:=ah hok;clear hok;by_cases hu0:0<=u
  .by_cases hu1:u<=C.days
   .have g1:¬(u<0):=by omega
    have g2:¬(C.days<u):=by omega
    gi_wp2_with (refine⟨trivial,?_⟩;gi_at_call 12;refine(fq.2 HFV.out).mono ?_;rintro e Z ⟨rfl,hz⟩;refine Hid.out ?_);refine ah ?_;have HZ:Hid (Below w.heap.size w Z):=av HB.out hz;have P1:=ah (O1H.out.below hz);have P2:=ah (O2H.out.below hz);have P3:=ah (O3H.out.below hz);have P4:=ah (O4H.out.below hz);have z5:=(O0H.out.below hz).cell (i:=5) rfl;have z2:=P2.out.cell (i:=0) rfl;have z3:=P3.out.cell (i:=0) rfl;have z4:=P4.out.cell (i:=0) rfl;have f3:=P3.out.frozen 0;have f4:=P4.out.frozen 0;clear hz x0 x1 x2 x3 x4 x5 x6 y0 y1 y2
    gi_upto_region 3 with(fail)
    have ZR:=ah (nS Gf.out);simp only at ZR;have HKN:Hid (xK F O):=by
     have h:=Cq (C:=C) (fs:=[⟨ho,F,O⟩]) (λf hf=>by rw[eB.1 hf];exact Gf.out);rw[show aM [(⟨ho,F,O⟩:bR)]=F by simp[aM],show bE [(⟨ho,F,O⟩:bR)]=O by simp[bE]]at h;exact h
    have HR:Hid (∀x∈F,iK x.ref):=λx hx=>by
     have h:=sG (kV ZR.out x hx).2;exact Ud (by omega) (by omega)
    have HOL:Hid (O.length<=4000):=(R8 Gf.out).2;have ha:Own (Z.alloc (.cells #[.int .i64 ho,.slice fA F.length fc,.slice oA O.length oc] 31)) 31 Z.heap.size (FQ [(⟨ho,F,O⟩,⟨⟨fA,fc⟩,⟨oA,oc⟩⟩)]):=Own.new Z _ [.int .i64 ho,.slice fA F.length fc,.slice oA O.length oc];have hba:Below w.heap.size w (Z.alloc (.cells #[.int .i64 ho,.slice fA F.length fc,.slice oA O.length oc] 31)):=av HZ.out (aJ (aC _ _) _);have hfs:=mF.row (c:=1) ha (by simp) (by unfold maxLen;omega) (λq hq=>by rw[eB.1 hq];exact HF.out.below hba);have hjo:=IB [⟨ho,F,O⟩] ⟨some ⟨Z.heap.size,0,none⟩,1⟩ ⟨ho,F,O⟩ _ hfs rfl (by simp) (by simpa [aM]using HR.out) (by simp[aM];omega) (by have:=HOL.out;simpa [bE]using this) (by simpa [aM,bE]using HKN.out);rw[show aM [(⟨ho,F,O⟩:bR)]=F by simp[aM],show bE [(⟨ho,F,O⟩:bR)]=O by simp[bE]]at hjo;have HJO:Hid (Calls prog 62 #[.slice (some ⟨Z.heap.size,0,none⟩) 1 1] (Z.alloc (.cells #[.int .i64 ho,.slice fA F.length fc,.slice oA O.length oc] 31)) (O5 ho F O (Z.alloc (.cells #[.int .i64 ho,.slice fA F.length fc,.slice oA O.length oc] 31)))):=hjo;have z10:=P1.out.cell (i:=0) rfl;have z11:=P1.out.cell (i:=1) rfl;have z12:=P1.out.cell (i:=2) rfl;have WO:=ah hba;clear ha hfs hjo hba z5 z2 z3 z4 f3 f4;gi_wp2_with (refine⟨trivial,?_⟩;gi_at_call 62;refine(fq.2 HJO.out).mono ?_;rintro e Z2 ⟨ho',T,OO,er,tA,tc,qA,qc,rfl,hfa,⟨hlt1,hlt2⟩,hb2,hj⟩;refine Hid.out ?_);refine ah ?_;have hbz:Below Z.heap.size Z Z2:=(aJ (aC _ _) _).trans (hb2.mono (by simp));have HB2:Hid (Below w.heap.size w Z2):=av HZ.out hbz;have Q1:=P1.out.below hbz;have Q2:=ah (P2.out.below hbz);have Q3:=ah (P3.out.below hbz);have Q4:=ah (P4.out.below hbz);have HTA:=ah hfa;have HJ:=ah hj;have k10:=Q1.cell (i:=0) rfl;have k11:=Q1.cell (i:=1) rfl;have k12:=Q1.cell (i:=2) rfl;have f10:=Q1.frozen 0;have f11:=Q1.frozen 1;have f12:=Q1.frozen 2;have xq:=ah Q1;have HLO:Hid (∀b off,tA=some ⟨b,off,none⟩->b1<b):=λb off e=>by have h1:=hlt1 b off e;have h2:=P1.out.lt;simp at h1;omega
    have HLQ:Hid (∀b off,qA=some ⟨b,off,none⟩->b1<b):=λb off e=>by have h1:=hlt2 b off e;have h2:=P1.out.lt;simp at h1;omega
    clear hbz hb2 hfa hj hlt1 hlt2 P1 P2 P3 P4 WO HJO z10 z11 z12 Q1
    gi_upto_region 4 with(fail)
    obtain⟨Wf,iq⟩:∃Wf,Hid (Wf=((Z2.setCell ⟨b1,0,none⟩ (.int .i64 ho')).setCell ⟨b1,1,none⟩ (.slice tA T.length tc)).setCell ⟨b1,2,none⟩ (.slice qA OO.length qc)):=⟨_,rfl⟩;rw[<-iq.out];obtain⟨R1,hu⟩:=Ze xq.out iq.out;have Ub:Hid (b1≠b2/\b1≠b3/\b1≠b4/\w.heap.size<=b1):=by have:=HNM.out;exact⟨by omega,by omega,by omega,by omega⟩
    have R2:=ah (Q2.out.keep hu (λe=>Ub.out.1 e.symm));have R3:=ah (Q3.out.keep hu (λe=>Ub.out.2.1 e.symm));have R4:=ah (Q4.out.keep hu (λe=>Ub.out.2.2.1 e.symm));have HBf:Hid (Below w.heap.size w Wf):=HB2.out.trans (hu.below HB2.out.size (λk e=>by have:=Ub.out.2.2.2;omega));have HTF:Hid (gJ Wf ⟨⟨tA,tc⟩,⟨qA,qc⟩⟩ ⟨ho',T,OO⟩):=⟨uS HTA.out.facts (by omega) hu (λb off e k=>by have:=HLO.out b off e;omega),uS HTA.out.orders (by omega) hu (λb off e k=>by have:=HLQ.out b off e;omega)⟩;have R1H:=ah R1;clear hu R1;rcases HJ.out with⟨rfl,rfl,acj⟩|⟨rfl,rfl,rfl,rfl,hev⟩
    .have HFI:=ah acj
     clear acj iq xq HJ;have hmm:=@run_makeMap prog
     gi_upto_region 9 with(fail)
     generalize hW9:World.alloc (World.alloc (World.alloc (World.alloc Wf _) _) _) _=W9;have hm9:eD InT 9 I8 W9 Wf.heap.size 0 (λ_=>none):=by
      refine(eD.made (P:=InT) (K:=9) (enc:=I8) Wf).below (m:=(Wf.alloc (.map #[] 0)).heap.size) (by simp) ?_;rw[<-hW9];exact av (av (aJ (aC _ _) _) (aJ (aC _ _) _)) (aJ (aC _ _) _)
     have hs9:W9.heap.size=Wf.heap.size+1+1+1+1:=by rw[<-hW9];simp
     obtain⟨Ue,_,m1,m2,m3⟩:=bx4 hW9;have HM9:=ah hm9;have wX:Hid (Own W9 119 (Wf.heap.size+1) [.map (some Wf.heap.size)]):=⟨[],by rw[bU];exact m1⟩;have Ni:Hid (Own W9 84 (Wf.heap.size+1+1) [.slice none 0 0]):=⟨[],by rw[bU];exact m2⟩;have Mc:Hid (Own W9 3 (Wf.heap.size+1+1+1) [.int .i64 0]):=⟨[],by rw[bU];exact m3⟩;clear hW9 m1 m2 m3 hm9 hmm;generalize hkn:Wf.heap.size+1+1+1=kn at Mc⊢;generalize hkr:Wf.heap.size+1+1=kr at Ni⊢;generalize hkm:Wf.heap.size+1=km at wX⊢;have R9:Hid (km=Wf.heap.size+1/\kr=Wf.heap.size+2/\kn=Wf.heap.size+3):=⟨hkm.symm,hkr.symm,hkn.symm⟩;clear hkn hkr hkm;have Ua:=ah (jq ZR.out);have HTT:Hid (jD F T OO):=by
      have h:=HFI.out.tight;rw[qR Ua.out]at h;exact h
     have abg:Hid (T.length=F.length):=DK HTT.out;have ahT:Hid (∀t∈T,∃x∈F,x.ref=t.ref/\x.act=t.act):=λt ht=>by
      obtain⟨x,hx,e⟩:=HTT.out.had ht;exact⟨x,hx,j3 e,congrArg (λz=>z.2.1) e⟩
     have HTR:Hid (∀t∈T,iK t.ref):=λt ht=>by
      obtain⟨x,hx,e,_⟩:=ahT.out t ht;rw[<-e];exact HR.out x hx
     have hkF:Known F OO:=by
      have h:=HKN.out.known HFI.out.ord;rw[qR Ua.out]at h;exact h
     have HTK:Hid (Known T OO):=HTT.out.known hkF;have HKF:=ah hkF;have HTD:=ah (HTT.out.distinct Ua.out);have HOO:Hid (OO.length<=4000):=bI (Iy HFI.out.ord) HOL.out;have hns:=J9 ⟨⟨tA,tc⟩,⟨qA,qc⟩⟩ ho' T OO u W9 (HTF.out.below Ue.out) HTR.out HTD.out (by have:=abg.out;omega) HOO.out HTK.out;simp only[FV.val,FV.cells]at hns;have HNS:=ah hns;have n10:=(R1H.out.below Ue.out).cell (i:=0) rfl;have n11:=(R1H.out.below Ue.out).cell (i:=1) rfl;have n12:=(R1H.out.below Ue.out).cell (i:=2) rfl;have n20:=(R2.out.below Ue.out).cell (i:=0) rfl;have HZ9:=ah hs9;clear hns hkF hs9;gi_wp2_with (refine⟨trivial,?_⟩;gi_at_call 63;refine(fq.2 HNS.out).mono ?_;rintro e W10 ⟨X,rfl,hXB,hXr,hXn,ahU,ahV,hXs,ahW⟩;refine Hid.out ?_);refine ah ?_;have HXS:=ah hXs;have HXB:=ah hXB;have WG:=ah hXr;have HXN:=ah hXn;have HXP:Hid (X.Lb=oz (bL T OO) X.n (bL T OO).length/\X.La=oC (bL T OO) X.n (bL T OO).length):=by
      have e:(bL T OO).length=OO.length:=by unfold bL;rw[dU]
      rw[e,hXn];exact⟨ahU,ahV⟩
     have aen:=ah ahW;clear hXB hXr hXn ahU ahV hXs ahW n10 n11 n12 n20;gi_wp2_with (refine⟨trivial,?_⟩;gi_at_call 64;refine(fq.2 (MK _ _)).mono ?_;rintro e z ⟨rfl,rfl⟩);generalize aeo:World.alloc W10 _=WS;obtain⟨aep,aer⟩:=bx1' aeo;obtain⟨Bs,hBs⟩:∃Bs,Bs=W10.heap.size:=⟨_,rfl⟩;rw[<-hBs]at aer⊢;have Qe:Hid (Own WS 122 Bs [.pointer (some ⟨X.sb,0,none⟩)]):=⟨[],by rw[bU];exact aer⟩;have R_:=ah (HXS.out.below aep);have alF:WS.heap.size=Bs+1:=by rw[<-aeo,hBs];simp
     have hxb:X.B<=Bs:=by rw[hBs,HXB.out];exact aen.out.size
     have Kc:Hid (Below W9.heap.size W9 WS):=av aen.out aep;have HST:Hid (∀k,StX X Bs k->X.B<=k/\k<WS.heap.size):=λk hk=>by
      rcases hk with rfl|rfl|rfl|⟨v,hv,hq⟩
      .exact⟨WG.out.1,R_.out.vB.own.lt⟩
      .exact⟨WG.out.2,R_.out.wW.own.lt⟩
      .omega
      .rcases hv with hv|hv
       .exact⟨(R_.out.vB.low v hv k hq).1,(R_.out.vB.low v hv k hq).2.1⟩
       .exact⟨(R_.out.wW.low v hv k hq).1,(R_.out.wW.low v hv k hq).2.1⟩
     have vF:Hid (X.B<=WS.heap.size/\w.heap.size<=X.B/\X.B=Wf.heap.size+4):=by
      have h1:=HBf.out.size;have h2:=HXB.out;have h3:=HZ9.out;exact⟨by omega,by omega,by omega⟩
     clear aeo aep aer hBs alF hxb HXS HXB WG aen HNS;obtain⟨K,HK⟩:∃K:CB,Hid (K=⟨b0,b1,b2,b3,b4,km,kr,kn,Wf.heap.size⟩):=⟨_,rfl⟩;have WA:Hid (∀b,Ju WS X.B b K ⟨⟨tA,tc⟩,⟨qA,qc⟩⟩ ho' T OO u 0 []):=λb=>by
      have o1:=(R1H.out.below Ue.out).below Kc.out;have o2:=(R2.out.below Ue.out).below Kc.out;have o3:=(R3.out.below Ue.out).below Kc.out;have o4:=(R4.out.below Ue.out).below Kc.out;have l1:=R1H.out.lt;have l2:=R2.out.lt;have l3:=R3.out.lt;have l4:=R4.out.lt;rw[HK.out];refine⟨o1,o2,o3,o4,wX.out.below Kc.out,⟨_,Ni.out.below Kc.out,lU.nil _ _⟩,Mc.out.below Kc.out,(HTF.out.facts.below (by omega) Ue.out).below (by omega) Kc.out,?_,λh0 k off e=>?_,?_⟩
      .rw[Zc]
       exact HM9.out.below HM9.out.lt Kc.out
      .simp only at e⊢
       obtain⟨g,o,e2,hl,_⟩:=HTF.out.facts.fact h0;simp only at e2;rw[e]at e2;simp only[Option.some.injEq,Addr.mk.injEq,and_true]at e2;omega
      .have:=vF.out
       have:=R9.out;simp only;omega
     have alG:Hid (Qc X.n (JK T u) (JM T u) (bL T OO)):=by
      show Qc _ _ _ _;rw[HXN.out];exact Qc.Xv HTT.out Ua.out HKF.out HFI.out.le u
     have Y6:Hid (∀i,i<X.n-> -1000000<=JK T u i/\JM T u i<=1000000):=by
      have h1:=tK Gf.out;intro i hi';rw[HXN.out]at hi';exact Pz HTT.out (λx hx=>by have:=sG (kV ZR.out x hx).2;omega) hu0 (by omega) i hi'
     have aes:Hid (X.n<=400/\(bL T OO).length<=4000):=by
      have e:(bL T OO).length=OO.length:=by unfold bL;rw[dU]
      have h1:=HXN.out;have h2:=abg.out;have h3:=HOO.out;exact⟨by omega,by omega⟩
     have vE:Hid (Below w.heap.size w WS):=av (av HBf.out Ue.out) Kc.out;refine nN (α:=Nat×List Int) rfl (by omega) (gf:=100) rfl trivial (enters_of func100 (by kernel_rfl) rfl)
      (encs:=λ_ x=>#[.slice (some ⟨x.1,0,none⟩) X.n X.n]) (Mv:=λb=>Qo X (WS.heap.size+2,b)) (Kp:=λb=>ZT X Bs (WS.heap.size+2,b)) (Ok:=COk X.n (WS.heap.size+2)) (OkL:=ahM X.n (WS.heap.size+2))
      (S:=λxs=>kQ X.n (JK T u) (JM T u) (bL T OO) (xs.map Prod.snd)/\xs.length<=400) (SL:=λ_=>∃Y,kQ X.n (JK T u) (JM T u) (bL T OO) Y/\400<Y.length)
      (I:=λb pre V=>Ju V X.B b K ⟨⟨tA,tc⟩,⟨qA,qc⟩⟩ ho' T OO u pre.length (qL (pre.map (λx=>gY T x.2 u)))/\Below w.heap.size w V/\X.B<=V.heap.size)
      (λW1 hW1 hsz=>by
       have h:=ML (P:=bL T OO) (lo:=JK T u) (hi:=JM T u) (Bs:=Bs) 5 (by omega) (λb pre V=>Ju V X.B b K ⟨⟨tA,tc⟩,⟨qA,qc⟩⟩ ho' T OO u pre.length (qL (pre.map (λx=>gY T x.2 u)))/\Below w.heap.size w V/\X.B<=V.heap.size) W1 (R_.out.below hW1) (Qe.out.below hW1) alG.out Y6.out HXP.out.1 HXP.out.2 aes.out.1 aes.out.2;rw[hsz]at h;exact h) (λ_ _=>rfl)
      (λ_ _ V=>Own V 84 b3 [.slice none 0 0]/\Own V 37 b4 [.int .i64 3]/\Below w.heap.size w V/\X.B<=V.heap.size)
      (λb pre V V' h ht=>⟨h.1.turn ht vF.out.1 h.2.2,h.2.1.trans (aG.below ht h.2.1.size (λk hk=>by have:=hk.1;have:=vF.out;omega)),bI h.2.2 ht.size⟩)
      (λb pre V V' h ht=>⟨h.1.turn ht,h.2.1.turn ht,h.2.2.1.trans (aG.below ht h.2.2.1.size (λk hk=>by have:=hk.1;have:=vF.out;omega)),bI h.2.2.2 ht.size⟩)
      (λb pre x V V' h ht=>⟨h.1,h.2.1,h.2.2.1.turn ht,bI h.2.2.2.1 ht.size,h.2.2.2.2⟩) (λb pre x V V' h ht=>⟨h.1,h.2.1,h.2.2.1.turn ht,bI h.2.2.2.1 ht.size,h.2.2.2.2⟩)
      (λb V V1 Y1 Y hb ht hk ht2=>⟨bI ht.size (bI hk.1 ht2.size),λk cs t fz hc hs=>ht2.cells (hk.2 k cs t fz (ht.cells hc) hs)⟩)
      (λb V V' k o hb hm hk1 hk2 ho hc=>hm.keep ho (λhs=>by
       rcases hs with hs|⟨_,cs,t,fz,h1,_⟩
       .have:=hs.1;simp only at this;omega
       .rw[ho]at h1;cases h1;cases hc))
      (λb pre V V' hb h hm=>by
       have h1:=hm.lC (by have:=vF.out;omega) h.2.2;exact⟨h.1.mv hm (by have:=vF.out;omega) h.2.2,h.2.1.trans (h1.mono vF.out.2.1),bI h.2.2 hm.size⟩)
      (λb pre V V' hb h hm=>by
       have h1:=hm.lC (by have:=vF.out;omega) h.2.2.2;have h2:=R3.out.lt;have h3:=R4.out.lt;have h4:=vF.out;exact⟨h.1.lC (by omega) h1,h.2.1.lC (by omega) h1,h.2.2.1.trans (h1.mono vF.out.2.1),bI h.2.2.2 hm.size⟩)
      (λ_=>[]) (λb V hV hb=>⟨(WA.out b).below vF.out.1 hV,av vE.out hV,bI vF.out.1 hV.size⟩) ?a1 ?assign ?body ?leave ?done ?stop
     case assign=>
      intro l b x W k Kx hk hKx;gi_wp2;exact hKx
     case body=>
      as_aux_lemma=>
       rintro l b pre ⟨xb,ds⟩ W k hb ⟨hC,hBw,hXW⟩ ⟨hp,hdl,hdo,hbs,hd0,hd1⟩ hk hbx;simp only at hdl hdo hd0 hd1 hp;clear hk hbx;obtain⟨L,hL⟩:∃L,qL (pre.map (λx=>gY T x.2 u))=L:=⟨_,rfl⟩;rw[hL]at hC;obtain⟨tr,Zf⟩:∃tr,gY T ds u=tr:=⟨_,rfl⟩;have HL:Hid (qL (pre.map (λx=>gY T x.2 u)++[gY T ds u])=nX L tr):=by show _=_;rw[Bb,hL,Zf]
       have HLL:Hid (L.length<=400):=by show _<=_;have:=VU (pre.map (λx=>gY T x.2 u));rw[hL,dU]at this;omega
       clear hL;have HC:=ah hC;rw[HK.out]at hC;have Sb:=hC.ord;simp only at Sb;have HO:=ah Sb;have hsb:=vF.out;have kb:kn<b/\kr<b/\Wf.heap.size<b:=by omega
       have KB:=ah kb;have c0:=hC.u6.cell (i:=0) rfl;have f0:=hC.u6.frozen 0;simp only at c0 f0;have yV:=ah hBw;have abj:=ah hXW;have HDO:=ah hdo;have HDL:=ah hdl;have HDX:Hid (WS.heap.size+2<=xb/\xb<b/\b<=W.heap.size):=⟨hd0,hd1,hbs⟩;have KZ:=ah hC;have hpl:pre.length<400:=hp;clear hC Sb hsb kb hBw hXW hdo hdl hd0 hd1 hbs hp
       gi_upto_region 12 with(fail)
       generalize hW1:World.setCell _ _ _=W1;have u1:aG (λk=>k=kn) W W1:=by rw[<-hW1];exact(aG.refl (λk=>k=kn) W).setCell (p:=⟨kn,0,none⟩) (.inl rfl) _
       have o1:Own W1 3 kn [.int .i64 ((pre.length:Int)+1)]:=by rw[<-hW1];exact KZ.out.u6.set (i:=0) (by simp) _
       clear hW1 c0 f0;have n0:=o1.cell (i:=0) rfl;have lw:=HO.out;have y1:=(KZ.out.R6.keep u1 (by simp only;omega)).cell (i:=1) rfl;have y2:=(KZ.out.aem.keep u1 (by simp only;omega)).cell (i:=0) rfl;simp only at y1 y2;have g1:¬(400<(pre.length:Int)+1):=by omega
       have htc:=Vy tA tc (some ⟨xb,0,none⟩) X.n T ds u W1 (R7 KZ.out.facts (by omega) u1 (λh0 k off e=>by have:=KZ.out.fl h0 k off e;simp only at this;omega))
        ((HDO.out.keep u1 (by have:=HDX.out;have:=vF.out;omega)).C8 (by rw[O_];omega) (DL ds) (by have:=HDL.out;omega) (by have:=aes.out.1;unfold maxLen;omega)) HTR.out (by have:=abg.out;omega)
       rw[HDL.out,Zf]at htc;have HTC:=ah htc;have zQ:=ah u1;have U8:=ah o1;clear htc u1 o1 lw;gi_wp2_with (refine⟨trivial,?_⟩;gi_at_call 16;refine(CallsIn.inRound l (fq.2 HTC.out)).mono ?_;rintro e W2 ⟨A2,c2,rfl,h1,h2⟩;refine Hid.out ?_);refine ah ?_;have HT2:=ah h1;have HB2:=ah h2;have hac:∀a∈tr, -9223372036854775808<=a/\a<=9223372036854775807:=λa ha=>by
        rw[<-Zf]at ha;rcases R5 ha with rfl|⟨y,hy,rfl⟩
        .omega
        .obtain⟨z,hz,_,e⟩:=ahT.out y hy
         have h5:=sG (kV ZR.out z hz).2;have h6:=(tK Gf.out).2;omega
       have hlen:tr.length<=4000:=by
        have h5:=VW (F:=T) (D:=ds) (u:=u);rw[Zf]at h5;have h6:=(tK Gf.out).1;have h7:=abg.out;omega
       have J2:=ah (Za tr A2 c2 W2 (DW h1 (DL tr)) hac (by omega) (HT.out.below ((yV.out.trans (zQ.out.below yV.out.size (λk e=>by have:=HBf.out.size;have:=R9.out;omega))).trans (h2.mono (by have:=yV.out.size;have:=zQ.out.size;omega)))));have uE:Hid (InT tr):=by
        show InT tr;have h5:=KX tr hac;unfold InT maxLen;omega
       have ZN:=ah hlen;clear h1 h2 hac hlen n0 y1 y2 g1 Zf HTC;gi_wp2_with (refine⟨trivial,?_⟩;gi_at_call 65;refine(CallsIn.inRound l (fq.2 J2.out)).mono ?_;rintro e W3 ⟨rfl,h1⟩;refine Hid.out ?_);refine ah ?_;have yI:Hid (aG (λk=>k=kn) W W3):=l8 (l8 zQ.out HB2.out) h1;have HT3:Hid (W3.ownsRow b 3 1 (.slice A2 tr.length c2) tr.length (aZ tr)):=Cr (dF HT2.out h1) (λg hg=>by have h7:=(HT2.out.lt g hg).1;have:=HDX.out;have:=zQ.out.size;omega);have HN3:Hid (Own W3 3 kn [.int .i64 ((pre.length:Int)+1)]):=(U8.out.below HB2.out).below h1;clear h1 J2 HT2 HB2 U8 zQ;have hmp:eD InT 9 I8 W3 Wf.heap.size L.length (Bc L):=KZ.out.map.upd yI.out (by simp only;have:=R9.out;omega);have hlk:=eD.look ahP underlying119 hmp (afY W3) uE.out (ahQ uE.out);have lw:=HO.out;have m0:=(KZ.out.DX.keep yI.out (by simp only;omega)).cell (i:=0) rfl;simp only at m0;have HMP:=ah hmp;clear hmp lw;by_cases hin:tr∈L
       .have hv:Bc L tr=some (.bool true):=by unfold Bc;rw[if_pos hin]
        rw[hv,Option.getD_some]at hlk;have ZU:Hid (nX L tr=L):=by show _=_;unfold nX;rw[if_pos hin]
        clear hv hin;generalize(⟨(lq tr).toArray⟩:ByteArray)=tx at hlk⊢;gi_wp2;have hC3:Ju W3 X.B b K ⟨⟨tA,tc⟩,⟨qA,qc⟩⟩ ho' T OO u (pre.length+1) L:=by
         rw[HK.out];obtain⟨v,hv,hr⟩:=KZ.out.Zd;have lw:=HO.out;refine KZ.out.round (yI.out.mono (λk _ e=>.inl e)) HN3.out ⟨v,hv.keep yI.out (by simp only;omega),hr.upd yI.out (λk cs t fz hk _ _ e=>by have:=KB.out;omega)⟩ HMP.out
        have hR3:aG (RdS W K b) W W3:=yI.out.mono (λk _ e=>.inl (by rw[HK.out];exact e));have l1:=vF.out;have l2:=R9.out;have l3:=HBf.out.size;refine⟨Py hR3 (by rw[HK.out];simp only;omega) (by rw[HK.out];simp only;omega) (by rw[HK.out];simp only;omega),HC.out.kp hR3 (λk hk=>by have:=HST.out k hk;omega) (by omega) hb,?_,yV.out.trans (yI.out.below yV.out.size (λk e=>by omega)),bI abj.out yI.out.size⟩;rw[HL.out,ZU.out];exact hC3
       .have hv:Bc L tr=none:=by unfold Bc;rw[if_neg hin]
        rw[hv,Option.getD_none]at hlk;have ZU:Hid (nX L tr=L++[tr]):=by show _=_;unfold nX;rw[if_neg hin]
        obtain⟨W4,hrun,Y7,htr⟩:=eD.put Zb ahP underlying119 HMP.out (by have:=HLL.out;unfold maxLen;omega) uE.out (ahQ uE.out) (.bool true);rw[hv]at Y7;have HM4:Hid (eD InT 9 I8 W4 Wf.heap.size (L++[tr]).length (Bc (L++[tr]))):=by
         have e:(λx=>if x=tr then some (Value.bool true)else Bc L x)=Bc (L++[tr]):=by funext x;exact VX L tr x
         rw[e]at Y7;rw[mU,rP];exact Y7
        have HUM:Hid (aG (λk=>k=Wf.heap.size) W3 W4):=h_ htr;clear hv hin Y7 htr;generalize(⟨(lq tr).toArray⟩:ByteArray)=tx at hlk hrun⊢
        gi_upto_region 18 with(fail)
        clear hlk hrun m0;have ZV:Hid (aG (λk=>k=kn\/k=Wf.heap.size) W W4):=(yI.out.mono (λ_ _ e=>.inl e)).trans HUM.out (λ_ _ e=>.inr e);obtain⟨v,hv,ts,r1,r2,r3⟩:=KZ.out.Zd;obtain⟨vA,vc,rfl⟩:=ownsRow_form r2;have l0:=KB.out;have lw:=HO.out;have HV4:Hid (Own W4 84 kr [.slice vA L.length vc]):=hv.keep ZV.out (by simp only at lw⊢;omega);have hlow:∀{e:TypeId}{n:Nat}{v:Value}{xs:List Value},W.ownsRow b e 1 v n xs->W4.ownsRow b e 1 v n xs:=λh=>bV h ZV.out (λk hk hs=>by have:=(h.lt k hk).1;omega);have HR2:=ah (hlow r2);have HR3:Hid (∀(i:Nat)(l:List Int)(t:SV),L[i]?=some l->ts[i]?=some t->W4.ownsRow b 3 1 (.slice t.A l.length t.c) l.length (aZ l)):=λi l t hl ht=>hlow (r3 i l t hl ht);have HR0:=ah r2;have HTS:=ah r1;have HT4:Hid (W4.ownsRow b 3 1 (.slice A2 tr.length c2) tr.length (aZ tr)):=bV HT3.out HUM.out (λk hk hs=>by have:=(HT3.out.lt k hk).1;omega);have HN4:=ah (HN3.out.keep HUM.out (by have:=R9.out;omega));have b4:b<=W4.heap.size:=by have:=ZV.out.size;have:=HDX.out;omega
        have LL:=HLL.out;have r0:=HV4.out.cell (i:=0) rfl;obtain⟨is,his,hiz,ahY,hib⟩:=info_parts' (P:=prog) (t:=22) (z:=some (.slice none 0 0)) (s:=1) (b:=24) (by kernel_rfl);clear hv r1 r2 r3 hlow lw l0 yI HN3 HT3 HUM HMP;gi_wp2_with (gi_at_builtin;refine qJ rfl _ _ 84 rfl 22 is (.slice none 0 0) 1 24 underlying84 his hiz ahY hib rfl (by decide) b _ L.length _ rfl HR2.out [.slice A2 tr.length c2] _ rfl rfl (by intro u hu;simp only[dx,iQ,or_false]at hu;subst hu;rfl) rfl (by unfold maxLen;omega) (by omega) (by omega) ?_;intro g6 c6 w6 h1 h2;refine Hid.out ?_);refine ah ?_;have vS:Hid (aG (λk=>(Value.slice vA L.length vc).ownBlock=some k) W4 w6):=aG.trans ((aG.refl _ W4).alloc _) (aG.jK h2) (λi _ h=>h);have hbk:∀k,(Value.slice vA L.length vc).ownBlock=some k->b<=k:=λk hk=>(HR2.out.lt k hk).1;have l0:=KB.out;have TW:=ah (HV4.out.keep vS.out (λe=>by have:=hbk _ e;omega));have Ng:Hid (lU w6 b (.slice (some ⟨g6,0,none⟩) (L.length+1) c6) (L++[tr])):=lU.snoc (t:=⟨A2,c2⟩) HTS.out HR2.out HR3.out HT4.out h1 vS.out;have r6:=TW.out.cell (i:=0) rfl;have f6:=TW.out.frozen 0;clear h1 h2 r0 b4 LL his hiz ahY hib;gi_wp2;generalize hW7:World.setCell _ _ _=W7;have u7:aG (λk=>k=kr) w6 W7:=by rw[<-hW7];exact(aG.refl (λk=>k=kr) w6).setCell (p:=⟨kr,0,none⟩) (.inl rfl) _
        have o7:Own W7 84 kr [.slice (some ⟨g6,0,none⟩) (L.length+1) c6]:=by rw[<-hW7];exact TW.out.set (i:=0) (by simp) _
        have u47:aG (λk=>k=kr\/(Value.slice vA L.length vc).ownBlock=some k) W4 W7:=(vS.out.mono (λ_ _ e=>.inr e)).trans u7 (λ_ _ e=>.inl e);have u07:aG (λk=>k=kn\/k=Wf.heap.size\/k=kr\/(Value.slice vA L.length vc).ownBlock=some k) W W7:=(ZV.out.mono (λ_ _ e=>by rcases e with e|e;exact .inl e;exact .inr (.inl e))).trans u47 (λ_ _ e=>.inr (.inr e));have l1:=vF.out;have l2:=R9.out;have l3:=HBf.out.size;have hC7:Ju W7 X.B b K ⟨⟨tA,tc⟩,⟨qA,qc⟩⟩ ho' T OO u (pre.length+1) (L++[tr]):=by
         rw[HK.out];refine KZ.out.round (u07.mono (λk _ e=>?_)) (HN4.out.keep u47 (λe=>?_)) ⟨_,o7,Ng.out.upd u7 (λk cs t fz hk _ _ e=>by omega)⟩ (HM4.out.upd u47 (λe=>?_))
         .rcases e with e|e|e|e
          .exact .inl e
          .exact .inr (.inl e)
          .exact .inr (.inr (.inl e))
          .have:=hbk _ e;exact .inr (.inr (.inr (by omega)))
         .rcases e with e|e
          .omega
          .have:=hbk _ e;omega
         .rcases e with e|e
          .omega
          .have:=hbk _ e;omega
        have hR7:aG (RdS W K b) W W7:=u07.mono (λk _ e=>by
         rw[HK.out];rcases e with e|e|e|e
         .exact .inl e
         .exact .inr (.inl e)
         .exact .inr (.inr (.inl e))
         .exact .inr (.inr (.inr ⟨hbk _ e,iO HR0.out k e⟩)))
        refine⟨Py hR7 (by rw[HK.out];simp only;omega) (by rw[HK.out];simp only;omega) (by rw[HK.out];simp only;omega),HC.out.kp hR7 (λk hk=>by have:=HST.out k hk;omega) (by omega) hb,?_,yV.out.trans (u07.below yV.out.size (λk e=>by rcases e with e|e|e|e;omega;omega;omega;(have:=hbk _ e;omega))),bI abj.out (bI ZV.out.size vS.out.size)⟩;rw[HL.out,ZU.out];exact hC7
     case leave=>
      as_aux_lemma=>
       rintro l b pre ⟨xb,ds⟩ W k hb ⟨hC,hBw,hXW⟩ ⟨hp,_,_,_,_,_⟩ hk hbx;clear hk hbx;obtain⟨L,hL⟩:∃L,qL (pre.map (λx=>gY T x.2 u))=L:=⟨_,rfl⟩;rw[hL]at hC;clear hL;have HC:=ah hC;rw[HK.out]at hC;have Sb:=hC.ord;simp only at Sb;have c0:=hC.u6.cell (i:=0) rfl;have f0:=hC.u6.frozen 0;simp only at c0 f0;have hpl:(400:Int)<(pre.length:Int)+1:=by omega
       have hpu:(pre.length:Int)<=400:=by omega
       have HO:=ah Sb;have KZ:=ah hC;have yV:=ah hBw;have abj:=ah hXW;clear hC Sb hp hBw hXW
       gi_upto_region 12 with(fail)
       generalize hW1:World.setCell _ _ _=W1;have u1:aG (λk=>k=kn) W W1:=by rw[<-hW1];exact(aG.refl (λk=>k=kn) W).setCell (p:=⟨kn,0,none⟩) (.inl rfl) _
       have o1:Own W1 3 kn [.int .i64 ((pre.length:Int)+1)]:=by rw[<-hW1];exact KZ.out.u6.set (i:=0) (by simp) _
       clear hW1 c0 f0;have n0:=o1.cell (i:=0) rfl;have lw:=HO.out;have q3:=KZ.out.Pw.keep u1 (by simp only;omega);have q4:=KZ.out.Px.keep u1 (by simp only;omega);simp only at q3 q4;have z3:=q3.cell (i:=0) rfl;have z4:=q4.cell (i:=0) rfl;have f3:=q3.frozen 0;have f4:=q4.frozen 0;have zQ:=ah u1;have JA:=ah q3;have Wy:=ah q4;clear u1 o1 lw q3 q4;gi_wp2;obtain⟨Wg,WM⟩:∃Wg,Hid (Wg=(W1.setCell ⟨b3,0,none⟩ (.slice none 0 0)).setCell ⟨b4,0,none⟩ (.int .i64 3)):=⟨_,rfl⟩;rw[<-WM.out];obtain⟨q3,q4,hu⟩:=u_ JA.out Wy.out n34 WM.out;have lw:=HO.out;have l1:=vF.out;have l2:=R9.out;have ug:aG (λk=>k=kn\/k=b3\/k=b4) W Wg:=(zQ.out.mono (λ_ _ e=>.inl e)).trans hu (λ_ _ e=>.inr e);have hown:∀k,(k=kn\/k=b3\/k=b4)->k<X.B/\∃t cs,Own W t k cs/\¬DT t:=λk e=>by
        rcases e with rfl|rfl|rfl
        .exact⟨by omega,_,_,KZ.out.u6,by unfold DT;decide⟩
        .exact⟨by omega,_,_,KZ.out.Pw,by unfold DT;decide⟩
        .exact⟨by omega,_,_,KZ.out.Px,by unfold DT;decide⟩
       refine⟨oZ _ ug (λk o e hk=>by obtain⟨_,t,cs,h5,_⟩:=hown k e;exact h5.isCells hk),ahR ug hown (λk hk=>by have:=HST.out k hk;omega) (by omega),q3,q4,yV.out.trans (ug.below yV.out.size (λk e=>?_)),bI abj.out zQ.out.size⟩;have l3:=HNM.out;have l4:=HBf.out.size;rcases e with e|e|e<;>omega
     case done=>
      as_aux_lemma=>
       rintro D b xs W hD hb ⟨hE,hxl⟩ ⟨hC,hBw,hXW⟩ hK;have HKD:=ah hK;clear hK;rw[HK.out]at hC;obtain⟨v,hv,hr⟩:=hC.Zd;simp only at hv;obtain⟨rA,rc,rfl,_⟩:=hr.form;have KZ:=ah hC;have HR:=ah hr;have HV:=ah hv;have c1:=hv.cell (i:=0) rfl;have q3:=hC.Pw;have q4:=hC.Px;simp only at q3 q4;have z3:=q3.cell (i:=0) rfl;have z4:=q4.cell (i:=0) rfl;have f3:=q3.frozen 0;have f4:=q4.frozen 0;have JA:=ah q3;have Wy:=ah q4;have yV:=ah hBw;have KP:=ah hE;have HXL:=ah hxl;clear hC hv hr q3 q4 hBw hXW hE hxl;have HLX:Hid (qL (xs.map (λx=>gY T x.2 u))=qL ((xs.map Prod.snd).map (λx=>gY T x u))):=by show _=_;rw[List.map_map];rfl
       generalize qL (xs.map (λx=>gY T x.2 u))=L at KZ HR HV c1 HLX⊢;gi_wp2;obtain⟨Wg,WM⟩:∃Wg,Hid (Wg=(W.setCell ⟨b3,0,none⟩ (.slice rA L.length rc)).setCell ⟨b4,0,none⟩ (.int .i64 0)):=⟨_,rfl⟩;rw[<-WM.out];obtain⟨q3,q4,hu⟩:=u_ JA.out Wy.out n34 WM.out;have l1:=R3.out.lt;have l2:=R4.out.lt;have l3:=vF.out;have l4:=HBf.out.size;have l5:=HNM.out;have hd:=hu.keep HKD.out (λe=>by rcases e with e|e<;>omega);refine⟨by simp,.inl ⟨_,_,rfl,run_takeDeferred hd,?_⟩⟩;have ht:=gB.putObj (S:=λk=>k=D) (.deferred none) rfl hd rfl;have hr2:lU Wg b (.slice rA L.length rc) L:=HR.out.upd hu (λk cs t fz hk _ _ e=>by rcases e with e|e<;>omega);have y3:=(q3.turn ht).cell (i:=0) rfl;have y4:=(q4.turn ht).cell (i:=0) rfl;have hr3:=hr2.upd ht (λk cs t fz hk hc _ hs=>by
        obtain⟨_,o,h1,h2⟩:=hs;rw[hc]at h1;cases h1
        cases h2)
       refine⟨.tuple #[.slice rA L.length rc,.int .i64 0],by simp[results,results36,go_sem,y3,y4],L,0,rA,rc,rfl,hr3.nums.2,(yV.out.trans (hu.below yV.out.size (λk e=>by rcases e with e|e<;>omega))).trans (aG.below ht (bI yV.out.size hu.size) (λk e=>by have:=e.1;omega)),.inr ⟨Gf.out,hu0,hu1,.inr ⟨T,OO,xs.map Prod.snd,HFI.out,?_,.inr ⟨rfl,by rw[dU];exact HXL.out,HLX.out⟩⟩⟩⟩;have h:=KP.out;rw[HXN.out]at h;exact h.choices HTT.out Ua.out HKF.out
     case stop=>
      as_aux_lemma=>
       rintro D b xs W hD hb ⟨Y,hE,hY⟩ ⟨h3,h4,hBw,hXW⟩ hK;have HKD:=ah hK;clear hK;have z3:=h3.cell (i:=0) rfl;have z4:=h4.cell (i:=0) rfl;have H3:=ah h3;have H4:=ah h4;have yV:=ah hBw;have KP:=ah hE;have HYL:=ah hY;clear h3 h4 hBw hXW hE hY;gi_wp2;refine⟨by simp,.inl ⟨_,_,rfl,run_takeDeferred HKD.out,?_⟩⟩;have ht:=gB.putObj (S:=λk=>k=D) (.deferred none) rfl HKD.out rfl;have y3:=(H3.out.turn ht).cell (i:=0) rfl;have y4:=(H4.out.turn ht).cell (i:=0) rfl;have l3:=vF.out;refine⟨.tuple #[.slice none 0 0,.int .i64 3],by simp[results,results36,go_sem,y3,y4],[],3,none,0,rfl,Cz _,yV.out.trans (aG.below ht yV.out.size (λk e=>by have:=e.1;omega)),.inr ⟨Gf.out,hu0,hu1,.inr ⟨T,OO,Y,HFI.out,?_,.inl ⟨rfl,rfl,HYL.out⟩⟩⟩⟩;have h:=KP.out;rw[HXN.out]at h;exact h.choices HTT.out Ua.out HKF.out
    .have HEV:=ah hev
     have z3:=R3.out.cell (i:=0) rfl;have z4:=R4.out.cell (i:=0) rfl;have f3:=R3.out.frozen 0;have f4:=R4.out.frozen 0;clear hev xq iq R1H;gi_wp2;obtain⟨Wg,WM⟩:∃Wg,Hid (Wg=(Wf.setCell ⟨b3,0,none⟩ (.slice none 0 0)).setCell ⟨b4,0,none⟩ (.int .i64 23)):=⟨_,rfl⟩;rw[<-WM.out];obtain⟨q3,q4,hu⟩:=u_ R3.out R4.out n34 WM.out;have y3:=q3.cell (i:=0) rfl;have y4:=q4.cell (i:=0) rfl;refine⟨.tuple #[.slice none 0 0,.int .i64 23],by simp[results,results36,go_sem,y3,y4],[],23,none,0,rfl,Cz _,HBf.out.trans (hu.below HBf.out.size (λk e=>by have:=HNM.out;rcases e with e|e<;>omega)),.inr ⟨Gf.out,hu0,hu1,.inl ⟨rfl,rfl,HEV.out⟩⟩⟩
   .have g1:¬(u<0):=by omega
    have g2:C.days<u:=by omega
    gi_wp2_with (refine⟨trivial,?_⟩;gi_at_call 12;refine(fq.2 HFV.out).mono ?_;rintro e Z ⟨rfl,hz⟩;refine Hid.out ?_);refine ah ?_;have HZ:Hid (Below w.heap.size w Z):=av HB.out hz;have P1:=ah (O1H.out.below hz);have P2:=ah (O2H.out.below hz);have P3:=ah (O3H.out.below hz);have P4:=ah (O4H.out.below hz);have z5:=(O0H.out.below hz).cell (i:=5) rfl;have z2:=P2.out.cell (i:=0) rfl;have z3:=P3.out.cell (i:=0) rfl;have z4:=P4.out.cell (i:=0) rfl;have f3:=P3.out.frozen 0;have f4:=P4.out.frozen 0;clear hz x0 x1 x2 x3 x4 x5 x6 y0 y1 y2;gi_wp2;obtain⟨Wf,iq⟩:∃Wf,Hid (Wf=(Z.setCell ⟨b3,0,none⟩ (.slice none 0 0)).setCell ⟨b4,0,none⟩ (.int .i64 1)):=⟨_,rfl⟩;rw[<-iq.out];obtain⟨q3,q4,hu⟩:=u_ P3.out P4.out n34 iq.out;have y3:=q3.cell (i:=0) rfl;have y4:=q4.cell (i:=0) rfl;refine⟨.tuple #[.slice none 0 0,.int .i64 1],by simp[results,results36,go_sem,y3,y4],[],1,none,0,rfl,Cz _,HZ.out.trans (hu.below HZ.out.size (λk e=>by have:=HNM.out;rcases e with e|e<;>omega)),.inl ⟨rfl,rfl,λh=>by have:=h.2.2;omega⟩⟩
  .have g1:u<0:=by omega
   gi_wp2_with (refine⟨trivial,?_⟩;gi_at_call 12;refine(fq.2 HFV.out).mono ?_;rintro e Z ⟨rfl,hz⟩;refine Hid.out ?_);refine ah ?_;have HZ:Hid (Below w.heap.size w Z):=av HB.out hz;have P1:=ah (O1H.out.below hz);have P2:=ah (O2H.out.below hz);have P3:=ah (O3H.out.below hz);have P4:=ah (O4H.out.below hz);have z5:=(O0H.out.below hz).cell (i:=5) rfl;have z2:=P2.out.cell (i:=0) rfl;have z3:=P3.out.cell (i:=0) rfl;have z4:=P4.out.cell (i:=0) rfl;have f3:=P3.out.frozen 0;have f4:=P4.out.frozen 0;clear hz x0 x1 x2 x3 x4 x5 x6 y0 y1 y2;gi_wp2;obtain⟨Wf,iq⟩:∃Wf,Hid (Wf=(Z.setCell ⟨b3,0,none⟩ (.slice none 0 0)).setCell ⟨b4,0,none⟩ (.int .i64 1)):=⟨_,rfl⟩;rw[<-iq.out];obtain⟨q3,q4,hu⟩:=u_ P3.out P4.out n34 iq.out;have y3:=q3.cell (i:=0) rfl;have y4:=q4.cell (i:=0) rfl;refine⟨.tuple #[.slice none 0 0,.int .i64 1],by simp[results,results36,go_sem,y3,y4],[],1,none,0,rfl,Cz _,HZ.out.trans (hu.below HZ.out.size (λk e=>by have:=HNM.out;rcases e with e|e<;>omega)),.inl ⟨rfl,rfl,λh=>by have:=h.2.1;omega⟩⟩
 .rw[show gN C ⟨ho,F,O⟩=false by simpa using hok]at HFV
  gi_wp2_with (refine⟨trivial,?_⟩;gi_at_call 12;refine(fq.2 HFV.out).mono ?_;rintro e Z ⟨rfl,hz⟩;refine Hid.out ?_);refine ah ?_;have HZ:Hid (Below w.heap.size w Z):=av HB.out hz;have P1:=ah (O1H.out.below hz);have P2:=ah (O2H.out.below hz);have P3:=ah (O3H.out.below hz);have P4:=ah (O4H.out.below hz);have z5:=(O0H.out.below hz).cell (i:=5) rfl;have z2:=P2.out.cell (i:=0) rfl;have z3:=P3.out.cell (i:=0) rfl;have z4:=P4.out.cell (i:=0) rfl;have f3:=P3.out.frozen 0;have f4:=P4.out.frozen 0;clear hz x0 x1 x2 x3 x4 x5 x6 y0 y1 y2;gi_wp2;obtain⟨Wf,iq⟩:∃Wf,Hid (Wf=(Z.setCell ⟨b3,0,none⟩ (.slice none 0 0)).setCell ⟨b4,0,none⟩ (.int .i64 1)):=⟨_,rfl⟩;rw[<-iq.out];obtain⟨q3,q4,hu⟩:=u_ P3.out P4.out n34 iq.out;have y3:=q3.cell (i:=0) rfl;have y4:=q4.cell (i:=0) rfl;refine⟨.tuple #[.slice none 0 0,.int .i64 1],by simp[results,results36,go_sem,y3,y4],[],1,none,0,rfl,Cz _,HZ.out.trans (hu.below HZ.out.size (λk e=>by have:=HNM.out;rcases e with e|e<;>omega)),.inl ⟨rfl,rfl,λh=>hok h.1⟩⟩
end Go.Proofs.YtpmdedcnbockhaaGreatDoor

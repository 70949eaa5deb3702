/-
  CuS; JtE; JtF; JtG; JtH; JtP; JtB; JtT; JtV
-/
import Derived.Test.YtpmdedcnbockhaaGreatDoorM28
import Derived.Test.YtpmdedcnbockhaaGreatDoorM21
set_option maxRecDepth 100000
set_option maxHeartbeats 8000000
namespace Go.Proofs.YtpmdedcnbockhaaGreatDoor
section
open Go.RowKit Go.Shelf
structure ahE(base:Nat)(e:TypeId)(size n:Nat)(w w':World):Prop where
 upd:aH (λk=>base<=k) w w'
 row:∀v m ys,m<=n->w.ownsRow base e size v m ys->w'.ownsRow base e size v m ys
 few:∀(b:Nat)(arr:Array Value)(t:TypeId)(p:Nat×Nat),w.heap[b]?=some (Obj.cells arr t p)->arr.size<=n*size->w'.heap[b]?=some (.cells arr t p)
theorem ahE.of{base size n:Nat}{e:TypeId}{w w':World}(h:Below w.heap.size w w'):ahE base e size n w w':=
 ⟨⟨h.os,h.tape,h.output,h.size,λk hk _=>h.block k hk⟩,λ_ _ _ _ hr=>dx hr h,λb _ _ _ hb _=>(h.block b (aF hb)).trans hb⟩
theorem dP.pairs{w:World}{v:SV}{l:List aM}(h:dP w v l):∃P:List (aM×FV),P.map Prod.fst=l/\At w 3 v.A l.length v.c (jq P)/\∀p∈P,dB w p.2 p.1:=by
 obtain⟨ts,h1,h2,h3⟩:=h;refine⟨l.zip ts,List.map_fst_zip (by omega),h2,λp hp=>?_⟩;obtain⟨i,hi⟩:=wZ hp;rw[Ei]at hi;exact h3 i _ _ hi.1 hi.2
theorem dP.of{w:World}{v:SV}{P:List (aM×FV)}(h:At w 3 v.A P.length v.c (jq P))(hf:∀p∈P,dB w p.2 p.1):dP w v (P.map Prod.fst):=by
 have hz:(P.map Prod.fst).zip (P.map Prod.snd)=P:=by rw[<-List.unzip_fst,<-List.unzip_snd];exact List.zip_unzip P
 refine⟨P.map Prod.snd,by simp,by rw[hz,dS];exact h,λi f t hi ht=>?_⟩;have h2:((P.map Prod.fst).zip (P.map Prod.snd))[i]?=some (f,t):=by rw[Ei];exact⟨hi,ht⟩
 rw[hz]at h2;exact hf _ (bT h2)
theorem zm(P:List (aM×FV)):(jq P).length=P.length*3:=f_ (λp:aM×FV=>FV.cells p.2 p.1) 3 (λ_=>rfl) P
theorem E9{P:List (aM×FV)}:∀u∈jq P,u.oneCell'=true:=λu hu=>by
 obtain⟨p,_,hp⟩:=mU.1 hu;simp only[FV.cells,dI,gN,or_false]at hp;rcases hp with rfl|rfl|rfl<;>rfl
theorem MR(P:List (aM×FV))(m:Nat):(jq P).take (m*3)=jq (P.take m):=by
 have e:jq P=jq (P.take m)++jq (P.drop m):=by unfold jq;rw[<-Ef,List.take_append_drop]
 rcases Nat.le_total m P.length with h|h
 .have h2:(jq (P.take m)).length=m*3:=by rw[zm,mV,Nat.min_eq_left h]
  rw[e,<-h2,List.take_left]
 .rw[uY h,uY (by rw[zm];omega)]
theorem aek{w:World}{B size:Nat}{e:TypeId}{n c:Nat}{A:Option Addr}{xs:List Value}(h:w.ownsRow B e size (.slice A n c) n xs)(h1:∀u∈xs,u.oneCell'=true):At w size A n c xs:=by
 have hl:=h.1;rcases h.2 with⟨h2,h3⟩|⟨g,cap,cur,h2,_,h3,h4,h5,h6,h7⟩
 .simp only[Value.slice.injEq]at h2
  obtain⟨rfl,rfl,rfl⟩:=h2;have e:xs=[]:=BJ (by omega);subst e;exact fJ _ _
 .simp only[Value.slice.injEq]at h2
  obtain⟨rfl,_,rfl⟩:=h2;have o:Own w e g xs:=⟨cur.toList.drop (n*size),by rw[<-h7,List.take_append_drop,Array.toArray_toList];exact h3⟩;exact o.BP hl h1 h4 h5
theorem dP.own{w:World}{B:Nat}{e:TypeId}{A:Option Addr}{c n:Nat}{P:List (aM×FV)}(hn:P.length=n)(h:w.ownsRow B e 3 (.slice A n c) n (jq P))(hf:∀p∈P,dB w p.2 p.1):dP w ⟨A,c⟩ (P.map Prod.fst):=by
 subst hn;exact dP.of (aek h E9) hf
theorem dP.take{w:World}{v:SV}{l:List aM}(h:dP w v l){m:Nat}(hm:m<=l.length):dP w v (l.take m):=by
 obtain⟨P,rfl,h2,h3⟩:=h.pairs;rw[dS]at h2 hm;have hl:(P.take m).length=m:=by rw[mV,Nat.min_eq_left hm]
 rw[<-List.map_take];refine dP.of ?_ (λp hp=>h3 p (List.mem_of_mem_take hp));rw[hl];refine⟨⟨by rw[zm,hl],E9,λh0=>?_⟩,λe=>?_,by have:=h2.2.2.1;omega,h2.2.2.2⟩
 .obtain⟨ad,e,hc⟩:=h2.1.2.2 (by omega)
  refine⟨ad,e,λj u hj=>hc j u ?_⟩;rw[<-MR,lU]at hj;split at hj
  .exact hj
  .cases hj
 .have:=h2.2.1 e
  exact⟨by omega,this.2⟩
theorem At.apart{w w':World}{size n c b:Nat}{A:Option Addr}{xs:List Value}{arr:Array Value}{t:TypeId}(h:At w size A n c xs)(hs:0<size)(hb:w.heap[b]?=some (.cells arr t (0,0)))(hu:aH (λk=>k=b) w w')(hno:0<n->∀off:Nat,∃j,j<n*size/\arr[off+j]?≠xs[j]?):At w' size A n c xs:=by
 refine⟨⟨h.1.1,h.1.2.1,λhn=>?_⟩,h.2⟩;obtain⟨b2,off,hA,hlt,hc⟩:=h.1.form hn hs;by_cases hbb:b2=b
 .subst hbb
  obtain⟨j,hj,hne⟩:=hno hn off;have h2:=hc j hj;rw[aL w b2 (off+j) arr t (0,0) hb]at h2;exact absurd h2 hne
 .refine⟨_,hA,λj u hj=>?_⟩
  have hjl:j<n*size:=by rw[<-h.1.1];exact(bC.1 hj).1
  rw[Addr.add_lit];exact(bO hu hlt hbb).trans ((hc j hjl).trans hj)
theorem dB.apart{w w':World}{t:FV}{f:aM}{b:Nat}{ty:TypeId}(h:dB w t f)(hb:w.heap[b]?=some (.cells #[.int .i64 0,.slice none 0 0,.slice none 0 0] ty (0,0)))(hu:aH (λk=>k=b) w w'):dB w' t f:=by
 refine⟨h.facts.apart (by omega) hb hu (λhn off=>⟨5,by omega,?_⟩),h.orders.apart (by omega) hb hu (λhn off=>?_)⟩
 .cases hF:f.facts with
  |nil=>rw[hF]at hn;simp at hn
  |cons x l=>simp[bE,au.cells]
 .cases hO:f.orders with
  |nil=>rw[hO]at hn;simp at hn
  |cons x l=>
   by_cases h0:off=0
   .subst h0
    exact⟨1,by simp only[iN];omega,by simp[dM,aP.cells]⟩
   .refine⟨0,by simp only[iN];omega,?_⟩
    rcases off with _|_|_|off
    .omega
    .simp[dM,aP.cells]
    .simp[dM,aP.cells]
    .simp[dM,aP.cells]
theorem E_:∀{O L:List aP},O.Pairwise Eu->(∀b∈O,b∈L)->O.length<=L.length
 |[],_,_,_=>aZ _
 |a::O,L,hp,hm=>by
  rw[w_]at hp;have h1:=E_ (L:=L.erase a) hp.2 (λb hb=>(List.mem_erase_of_ne (λe=>FL a (by have:=hp.1 b hb;rw[e]at this;exact this))).2 (hm b (jf _ hb)));have h2:=hm a (by simp);rw[List.length_erase_of_mem h2]at h1;have h3:=List.length_pos_of_mem h2;simp only[iN];omega
theorem mK.size{C:aB}{fs:List aM}{ho:Int}{F:List au}{O:List aP}{er:Int}(h:mK C fs ho F O er):F.length<=(aG fs).length/\O.length<=(aO fs).length/\((∀x∈aG fs,fD x.ref)->∀x∈F,fD x.ref):=by
 have fine:jo (aG fs) (aO fs) F O->F.length<=(aG fs).length/\O.length<=(aO fs).length/\((∀x∈aG fs,fD x.ref)->∀x∈F,fD x.ref):=λhf=>by
  have h1:=vT hf.tight;have h2:=uh (aG fs);have h3:=wO (aG fs);refine⟨by omega,E_ hf.ord.1 (λb hb=>(hf.ord.2 b).1 hb),λhr x hx=>?_⟩;obtain⟨z,hz,e⟩:=hf.tight.had hx;obtain⟨y,hy,e2,_⟩:=(bU hz).act;rw[<-eG e,<-e2];exact hr y hy
 rcases h with⟨_,_,rfl,rfl,_⟩|⟨_,f0,_,⟨_,_,hf⟩|⟨_,_,rfl,rfl,_⟩⟩
 .exact⟨aZ _,aZ _,λ_ x hx=>by cases hx⟩
 .exact fine hf
 .exact⟨aZ _,aZ _,λ_ x hx=>by cases hx⟩
theorem mK.fine{C:aB}{fs:List aM}{ho:Int}{F:List au}{O:List aP}(h:mK C fs ho F O 0):um C fs/\jo (aG fs) (aO fs) F O/\∃f0,fs[0]?=some f0/\ho=f0.house:=by
 rcases h with⟨h,_⟩|⟨ha,f0,h0,⟨_,h1,hf⟩|⟨h,_⟩⟩
 .cases h
 .exact⟨ha,hf,f0,h0,h1⟩
 .cases h
theorem mK.none{C:aB}{fs:List aM}{ho:Int}{F:List au}{O:List aP}{er:Int}(h:mK C fs ho F O er)(he:er≠0):F=[]:=by
 rcases h with⟨_,_,h,_⟩|⟨ha,f0,h0,⟨h,_⟩|⟨_,_,h,_⟩⟩
 .exact h
 .exact absurd h he
 .exact h
end
section
open Go.RowKit Go.Shelf Go.Sort
def aB.rF(C:aB)(P:List Int)(s:ak)(i:Nat):Bool:=P.any (λp=>C.sees s p i)
def aB.sight(C:aB)(P:List Int)(s:ak)(i:Nat):Bool:=
 match C.acts[i]? with
 |some a=>(!(a.kind==1))||((a.tgt== -1)||C.rF P s i)
 |none=>false
def jM(l:List Int):List UInt8:=l.map (λh=>UInt8.ofNat h.toNat)
def Kj(s:ak)(i:Nat):List UInt8:=jM s.aj++[UInt8.ofNat i]
theorem CX{x:Int}(h:0<=x/\x<=255):x=((UInt8.ofNat x.toNat).toNat:Int):=by
 rw[UInt8.toNat_ofNat'];have:x.toNat % 2 ^ 8=x.toNat:=Nat.mod_eq_of_lt (by omega);rw[this];omega
theorem I7:∀{l m:List Int},(∀x∈l,0<=x/\x<=255)->(∀x∈m,0<=x/\x<=255)->jM l=jM m->l=m
 |[],[],_,_,_=>rfl
 |[],_::_,_,_,h=>by cases h
 |_::_,[],_,_,h=>by cases h
 |x::l,y::m,h1,h2,h=>by
  unfold jM at h;rw[kN,kN]at h;injection h with ha hb
  have e:x=y:=by rw[CX (h1 x (by simp)),CX (h2 y (by simp)),ha]
  rw[e,I7 (λz hz=>h1 z (jf _ hz)) (λz hz=>h2 z (jf _ hz)) hb]
theorem YQ{C:aB}{s s':ak}(hO:bR C s)(hO':bR C s'){i i':Nat}(hi:i<C.acts.length)(hi':i'<C.acts.length)(h:Kj s i=Kj s' i'):s.aj=s'.aj/\i=i':=by
 have HK:=aB.ok hO.con;have hp:=HK.Hg;have hn:=HK.KN;obtain⟨h1,h2⟩:=List.append_inj' h rfl;refine⟨I7 (λx hx=>by have:=hO.held x hx;omega) (λx hx=>by have:=hO'.held x hx;omega) h1,?_⟩;have h3:UInt8.ofNat i=UInt8.ofNat i':=by simpa using h2
 have e:=congrArg UInt8.toNat h3;rw[UInt8.toNat_ofNat',UInt8.toNat_ofNat',Nat.mod_eq_of_lt (by omega),Nat.mod_eq_of_lt (by omega)]at e;exact e
theorem MS{C:aB}{s s':ak}(hO:bR C s)(hO':bR C s')(h:s.aj=s'.aj)(p x:Int):C.sees s p x=C.sees s' p x:=by
 unfold aB.sees aB.Dj Ku;rw[(jR C s).2 hO,(jR C s').2 hO',h]
def Sound(C:aB)(P:List Int)(x:List UInt8)(b:Bool):Prop:=∀(s:ak)(i:Nat),bR C s->i<C.acts.length->Kj s i=x->b=C.rF P s i
theorem YR{C:aB}{P:List Int}{s:ak}{i:Nat}(hO:bR C s)(hi:i<C.acts.length):Sound C P (Kj s i) (C.rF P s i):=λs' i' hO' hi' e=>by
 obtain⟨h1,h2⟩:=YQ hO' hO hi' hi e;subst h2;unfold aB.rF;congr 1;funext p;exact(MS hO' hO h1 p _).symm
theorem ahF(w:World):(zeroValue 4).run Tryz.prog w= .ok (.bool false) w:=by kernel_rfl
def dO(C:aB)(P:List Int)(w:World)(b n:Nat):Prop:=
 ∃D:DataW Value,w.ownsMap Tryz.prog 9 R1 b (Maps.size D) D/\Maps.size D<=n/\∀x:List UInt8,Maps.has D (.string x)=true->∃y:Bool,(∀z,D.atKey (.string x) z= .held (.bool y))/\Sound C P x y
section
variable {C:aB} {P:List Int} {w w':World} {b n:Nat}
theorem dO.blk(h:dO C P w b n):fB w b:=by
 obtain⟨D,⟨es,c,hb,_⟩,_⟩:=h;exact⟨es,c,hb⟩
theorem dO.keep{S:Nat->Prop}(h:dO C P w b n)(hu:aH S w w')(hb:¬S b):dO C P w' b n:=by
 obtain⟨D,⟨es,c,h1,h2⟩,h3⟩:=h;exact⟨D,⟨es,c,hu.keep h1 hb,h2⟩,h3⟩
theorem dO.below(h:dO C P w b n)(hb:Below w.heap.size w w'):dO C P w' b n:=by
 obtain⟨es,c,h1⟩:=h.blk;exact h.keep (aH.of_below hb) (by have:=aF h1;omega)
theorem dO.mono{m:Nat}(h:dO C P w b n)(hm:n<=m):dO C P w b m:=by
 obtain⟨D,h1,h2,h3⟩:=h;exact⟨D,h1,bL h2 hm,h3⟩
theorem dO.made(C:aB)(P:List Int)(w:World):dO C P (w.alloc (.map #[] 0)) w.heap.size 0:=⟨.map [],World.ownsMap_made _ _ _ _,bJ _,λx hx=>by cases hx⟩
theorem dO.look(h:dO C P w b n){x:List UInt8}(hl:x.length<=maxLen):
 ∃y k:Bool,(Instr.lookup 119 (.map (some b)) (.string ⟨x.toArray⟩) true).run Tryz.prog w= .ok (.tuple #[.bool y,.bool k]) w/\(k=true->Sound C P x y)/\(k=false->y=false):=by
 obtain⟨D,h1,h2,h3⟩:=h;obtain⟨v,ps,hrun,hv⟩:=h1.look_ok (t:=119) (e:=4) xJ Tryz.underlying119 (ahF w) (zd:=.held (.bool false)) (zp:=[]) rfl (J_ hl);have h6:=Ms hv;cases hh:Maps.has D (.string x)with
 |true=>
  obtain⟨y,hy,hs⟩:=h3 x hh;rw[hy]at h6;injection h6 with h6
  subst h6;rw[hh]at hrun;exact⟨y,true,hrun,λ_=>hs,λh=>(by cases h)⟩
 |false=>
  rw[Maps.atKey_of_not_has hh]at h6;injection h6 with h6
  subst h6;rw[hh]at hrun;exact⟨false,false,hrun,λh=>(by cases h),λ_=>rfl⟩
theorem dO.put(h:dO C P w b n){x:List UInt8}(hl:x.length<=maxLen){y:Bool}(hs:Sound C P x y)(hn:n<=100000000000):
 ∃w',(Instr.mapUpdate 119 (.map (some b)) (.string ⟨x.toArray⟩) (.bool y)).run Tryz.prog w= .ok () w'/\dO C P w' b (n+1)/\aH (λk=>k=b) w w':=by
 obtain⟨D,h1,h2,h3⟩:=h;obtain⟨w',hrun,hown,htr⟩:=h1.store (t:=119) (e:=4) xJ Tryz.underlying119 (by unfold maxLen;omega) (J_ hl) (val:=.bool y) (d:=.held (.bool y)) (ps:=[]) rfl;obtain⟨hu,_⟩:=uQ htr;refine⟨w',hrun,⟨D.put (.string x) (.held (.bool y)),wN hown,?_,λx' hx'=>?_⟩,hu⟩
 .rw[Maps.size_put (h1.tidy xJ)]
  split<;>omega
 .by_cases e:x'=x
  .subst e
   exact⟨y,λz=>Maps.atKey_put_same h1.isMap (xJ.key (J_ hl)) _ _,hs⟩
  .have hne:Lit.string x'≠ .string x:=λh=>e (by injection h)
   rw[Maps.has_put_other hne]at hx';obtain⟨y',hy',hs'⟩:=h3 x' hx';exact⟨y',λz=>by rw[Maps.atKey_put_other hne];exact hy' z,hs'⟩
end
def wS(bc bk bp:Nat):Value:=.func (.func 75) #[] #[.pointer (some ⟨bc,0,none⟩),.pointer (some ⟨bk,0,none⟩),.pointer (some ⟨bp,0,none⟩)]
structure pG(C:aB)(P:List Int)(w:World)(bc bk bp bm n:Nat):Prop where
 con:∃v,uV w bc v C
 key:Own w 119 bk [.map (some bm)]
 par:∃A c,Own w 22 bp [.slice A P.length c]/\At w 1 A P.length c (aY P)
 memo:dO C P w bm n
theorem Own.Ua{w:World}{t:TypeId}{b:Nat}{cs:List Value}(h:Own w t b cs):¬fB w b:=λ⟨es,c,e⟩=>by
 obtain⟨tl,h⟩:=h;rw[h]at e;cases e
theorem Own.Bq{S:Nat->Prop}{w w':World}{t:TypeId}{b:Nat}{cs:List Value}(h:Own w t b cs)(hu:aH S w w')(hS:∀k,S k->fB w k):Own w' t b cs:=h.keep hu (λhb=>h.Ua (hS b hb))
theorem uV.Bq{S:Nat->Prop}{w w':World}{b:Nat}{v:CV}{C:aB}(h:uV w b v C)(hu:aH S w w')(hS:∀k,S k->fB w k):uV w' b v C:=⟨h.con.upd hu hS,h.kZ.Bq hu hS⟩
theorem pG.turn{C:aB}{P:List Int}{S:Nat->Prop}{w w':World}{bc bk bp bm n m:Nat}(h:pG C P w bc bk bp bm n)(hu:aH S w w')(hS:∀k,S k->fB w k)(hm:dO C P w' bm m):pG C P w' bc bk bp bm m:=by
 obtain⟨⟨v,h1⟩,h2,⟨A,c,h3,h4⟩,_⟩:=h;exact⟨⟨v,h1.Bq hu hS⟩,h2.Bq hu hS,⟨A,c,h3.Bq hu hS,h4.upd (by omega) hu hS⟩,hm⟩
def V8(C:aB)(P:List Int)(w:World)(e:Ending)(w':World):Prop:=
 ∃bc bk bp bm:Nat,e= .returned (wS bc bk bp)/\pG C P w' bc bk bp bm 0/\Below w.heap.size w w'/\w.heap.size<=bm
theorem V9(v:CV)(C:aB)(A:Option Addr)(c:Nat)(P:List Int)(w:World)(hC:cK w v C)(hP:At w 1 A P.length c (aY P)):Calls Tryz.prog 48 #[v.val C,.slice A P.length c] w (V8 C P w):=by
 obtain⟨⟨g_,h_⟩,⟨ig,iq⟩,⟨jk,gD⟩,⟨iM,gB⟩,⟨gT,gU⟩⟩:=v;have HC:=ah hC;clear hC;have HP:=ah hP;clear hP;simp only[CV.val,CV.cells];have hmm:=@run_makeMap Tryz.prog;go_enter Tryz.func48,Tryz.ntmps48;go_upto_region 1 with(fail)
 generalize hW0:World.alloc _ _=W0;obtain⟨HB0,h0,h1⟩:=Ko hW0;have zZ:Hid (W0.heap.size=w.heap.size+1+1):=by show _=_;rw[<-hW0];simp
 clear hW0;go_upto_region 2 with(fail)
 generalize hW1:World.alloc _ _=W1;obtain⟨HB1,h2,h3⟩:=Ko hW1;have HM:Hid (dO C P (W0.alloc (.map #[] 0)) W0.heap.size 0):=dO.made C P W0;have Nk:Hid (dO C P W1 W0.heap.size 0):=by rw[<-hW1];exact HM.out.below (aN (aC _ _) _)
 clear hW1 HM;go_wp2;go_ret;refine⟨w.heap.size,W0.heap.size+1,w.heap.size+1,W0.heap.size,rfl,⟨⟨⟨⟨g_,h_⟩,⟨ig,iq⟩,⟨jk,gD⟩,⟨iM,gB⟩,⟨gT,gU⟩⟩,⟨HC.out.below (ay HB0.out HB1.out),⟨[],?_⟩⟩⟩,⟨[],by rw[bV];exact h3⟩,⟨A,c,⟨[],?_⟩,HP.out.below (by omega) (ay HB0.out HB1.out)⟩,Nk.out⟩,ay HB0.out HB1.out,by have:=zZ.out;omega⟩
 .rw[bV];exact(HB1.out.block _ (aF h0)).trans h0
 .rw[bV];exact(HB1.out.block _ (aF h1)).trans h1
end
section
open Go.RowKit Go.Shelf Go.Sort
theorem ab1(W:World){x:Int}(h:0<=x/\x<=255):(convert 3 5 (.int .i64 x)).run Tryz.prog W= .ok (.int .u8 x) W:=by
 have h1:=run_convert_int (P:=Tryz.prog) W 3 5 .i64 x (by rw[Tryz.underlying3];rfl) (by kernel_rfl);have h2:Tryz.prog.intKind 5= .u8:=by kernel_rfl
 rw[h2,IntWalk.u8_in x h]at h1;exact h1
theorem PK{l:List Int}{k:Nat}{x:Int}(h:l[k]?=some x):jM (l.take (k+1))=jM (l.take k)++[UInt8.ofNat x.toNat]:=by
 rw[bS h];simp[jM]
theorem YS{l:List Int}{k:Nat}{x:Int}(h:l[k]?=some x)(f:Int->Bool):(l.take (k+1)).any f=((l.take k).any f||f x):=by
 rw[bS h];simp
def PL(C:aB)(P:List Int)(s:ak)(i:Nat)(bm n:Nat)(w:World)(e:Ending)(w':World):Prop:=
 e= .returned (.bool (C.sight P s i))/\dO C P w' bm (n+1)/\aH (λk=>k=bm) w w'
theorem FY{C:aB}{P:List Int}{w W:World}{bm n:Nat}(h:dO C P w bm n)(hb:Below w.heap.size w W):dO C P W bm (n+1)/\aH (λk=>k=bm) w W:=
 ⟨(h.below hb).mono (by omega),(aH.of_below hb).mono (λi hi hle=>by omega)⟩
theorem I8{C:aB}{P:List Int}{w:World}{bc bk bp bm n:Nat}(H:pG C P w bc bk bp bm n)(hn:n<=100000000000)(t:TV)(s:ak)(hS:bF w t s)(hO:bR C s){i:Nat}(hi:i<C.acts.length):
 Calls Tryz.prog 75 #[t.val s,.int .i64 i,.pointer (some ⟨bc,0,none⟩),.pointer (some ⟨bk,0,none⟩),.pointer (some ⟨bp,0,none⟩)] w (PL C P s i bm n w):=by
 obtain⟨⟨⟨⟨g_,h_⟩,⟨ig,iq⟩,⟨jk,gD⟩,⟨iM,gB⟩,⟨gT,gU⟩⟩,hco⟩,hkey,⟨pA,pc,hpb,hpa⟩,hmem⟩:=H;obtain⟨⟨jw,iJ⟩,⟨jN,iC⟩,⟨kP,fK⟩⟩:=t;obtain⟨a,ha⟩:∃a,C.acts[i]?=some a:=⟨_,aW hi⟩;have PN:Hid (C.sight P s i=((!(a.kind==1))||((a.tgt== -1)||C.rF P s i))):=by show _=_;unfold aB.sight;rw[ha]
 have HK:=ah (aB.ok hO.con);have hnr:=HK.out.Rb;have hnp:=HK.out.Hg;have hna:=HK.out.KN;have hlh:s.aj.length<=12:=by rw[hO.lh];exact hnr
 have HHR:Hid (∀x∈s.aj,0<=x/\x<=255):=λx hx=>by have:=hO.held x hx;omega
 have HN:=ah hn;clear hn;have Ip:Hid (Sound C P (Kj s i) (C.rF P s i)):=YR hO hi;have Td:Hid (∀b,Sound C P (Kj s i) b->b=C.rF P s i):=λb h=>h s i hO hi rfl;have HC:=ah hco;clear hco;have HKE:=ah hkey;clear hkey;have HPB:=ah hpb;clear hpb;have HPA:=ah hpa;clear hpa;have HM:=ah hmem;clear hmem;have HS:=ah hS;clear hS;have HO:=ah hO;clear hO;generalize hE:C.sight P s i=E at PN;have HE:=ah hE;clear hE;unfold PL;rw[HE.out];simp only[TV.val,TV.cells,ak.cells];go_enter Tryz.func75,Tryz.ntmps75;go_upto_region 1 with(fail)
 generalize hW0:World.alloc _ _=W0;obtain⟨HB0,h0⟩:=bx1 hW0;have xI:Hid (Own W0 48 w.heap.size [.int .i64 s.day,.slice jw s.aj.length iJ,.slice jN s.used.length iC,.slice kP s.marks.length fK]):=⟨[],by rw[bV];exact h0⟩;have ZY:=ah (HC.out.below HB0.out);obtain⟨c0,c1,c2,c3,c4,c5,c6⟩:=ZY.out.cells;simp only at c0 c1 c2 c3 c4 c5 c6;obtain⟨ab,nD,hA,hab,hac⟩:=ZY.out.con.act ha;simp only at hA;subst hA;obtain⟨ki,ro,gi,tg,un,⟨ln,ld⟩⟩:=a;simp only at PN;obtain⟨r0,r1,r2,r3,r4,r5,r6⟩:=rw7 (hac W0 (aC _ _)) rfl;have i0:(0:Int)<=(i:Int):=by omega
 have i1:(i:Int)<(C.acts.length:Int):=by omega
 clear hW0 h0 hac hab ha;go_upto_region 2 with(fail)
 generalize hW1:World.alloc _ _=W1;obtain⟨hb1,h1⟩:=bx1' hW1;have d0:W1.cell? ⟨W0.heap.size,0,none⟩=some (.int .i64 ki):=(aL W1 _ 0 _ _ _ h1).trans rfl;have d3:W1.cell? ⟨W0.heap.size,3,none⟩=some (.int .i64 tg):=(aL W1 _ 3 _ _ _ h1).trans rfl;have AB:=ah (ZY.out.below hb1);have HB1:Hid (Below w.heap.size w W1):=ay HB0.out hb1;have ael:=ah (xI.out.below hb1);clear hW1 h1 r0 r1 r2 r3 r4 r5 r6 c0 c1 c2 c3 c4 c5 c6 ZY hb1 xI HC HB0;cases qk:(ki==1)with
 |false=>
  rw[qk]at PN;have qk':(ki !=1)=true:=by simpa using qk
  go_wp2;go_ret;exact⟨by rw[PN.out];rfl,FY HM.out HB1.out⟩
 |true=>
  have qk':(ki !=1)=false:=by simpa using qk
  cases qt:(tg== -1)with
  |true=>
   rw[qk,qt]at PN;go_wp2;go_ret;exact⟨by rw[PN.out];rfl,FY HM.out HB1.out⟩
  |false=>
   rw[qk,qt]at PN;have ahG:Hid (E=C.rF P s i):=by show _=_;rw[PN.out];rfl
   clear PN;obtain⟨iu,hui,huz,Rn,hub⟩:=info_parts' KP;have s1:=ael.out.cell (i:=1) rfl;have LD:Hid (∀z,Below W1.heap.size W1 z->uV z bc ⟨⟨g_,h_⟩,⟨ig,iq⟩,⟨some ⟨ab,nD,none⟩,gD⟩,⟨iM,gB⟩,⟨gT,gU⟩⟩ C):=λz hz=>AB.out.below hz;clear AB;go_wp2_with (at_make;refine wpList_make_own _ rfl _ _ 101 rfl W1.heap.size 5 iu (.int .u8 0) 1 Tryz.underlying101 hui huz Rn _ _ _ (s.aj.length+1) rfl rfl (by simp) (by rw[hub];omega) (by unfold maxLen;omega) (bJ _) ?_;intro W2 hrow2 hg2;refine Hid.out ?_);refine ah ?_;have Qr:Hid (Bytes W1.heap.size W2 (.slice (some ⟨W1.heap.size,0,none⟩) 0 (s.aj.length+1)) (jM (s.aj.take 0))):=hrow2;have HZ2:Hid (RowKit.Below W1.heap.size W1 W2):=(aC _ _).grown hg2 (bJ _) (λj hj=>by cases hj);clear hrow2 hg2 s1 d0 d3;have s1:=(ael.out.below HZ2.out).cell (i:=1) rfl;go_wp2
   go_loopg [37,9] s.aj.length (λgk v37 v9 wr=>∃k:Nat,gk=s.aj.length - k/\k<=s.aj.length/\v37= .int .i64 k/\Hid (Bytes W1.heap.size wr v9 (jM (s.aj.take k)))/\Hid (Below W1.heap.size W1 wr))
   case atStart=>exact⟨0,rfl,aZ _,rfl,Qr,HZ2⟩
   case round=>
    obtain⟨k,eZ,hk,rfl,HY,HZ⟩:=hrel;have iL:=ah eZ;clear eZ;clear Qr HZ2 s1;have hyl:(jM (s.aj.take k)).length=k:=by unfold jM;rw[dS,mV];omega
    by_cases hlt:k<s.aj.length
    .obtain⟨x,hx⟩:∃x,s.aj[k]?=some x:=⟨_,aW hlt⟩
     have XZ:=HHR.out x (bT hx);obtain⟨hb,ho,hA,hbl,hcl⟩:=(HS.out.below (ay HB1.out HZ.out)).aj.1.form (by omega) (by omega);simp only at hA;subst hA;have x0:wr.cell? ⟨hb,ho+k,none⟩=some (.int .i64 x):=(hcl k (by omega)).trans (fI hx);have hcv:∀W:World,(convert 3 5 (.int .i64 x)).run Tryz.prog W= .ok (.int .u8 x) W:=λW=>ab1 W XZ;have HXB:=ah (CX XZ);have uf:=ah (PK hx);have k0:(k:Int)<(s.aj.length:Int):=by omega
     have k1:(0:Int)<=(k:Int):=by omega
     clear hcl hx XZ;go_wp2_with (at_builtin;refine wpList_append_byte rfl _ _ rfl W1.heap.size _ _ rfl HY.out _ x HXB.out rfl (by rw[hyl];omega) HZ.out.size ?_;intro v2 w2 h1 h2;refine Hid.out ?_);refine ah ?_;have HYN:Hid (Bytes W1.heap.size w2 v2 (jM (s.aj.take (k+1)))):=by show Bytes _ _ _ _;rw[uf.out];exact h1
     have HZN:Hid (RowKit.Below W1.heap.size W1 w2):=HZ.out.trans h2.below;clear h1 h2 x0 hcv;go_wp2
     go_roundg (s.aj.length - (k+1))
     case measure=>rw[iL.out];omega
     case rel=>exact⟨k+1,rfl,by omega,by go_num,HYN,HZN⟩
    .obtain rfl:k=s.aj.length:=by omega
     rw[gW]at HY;have hir:(0:Int)<=(i:Int)/\(i:Int)<=255:=by omega
     have hcv:∀W:World,(convert 3 5 (.int .i64 i)).run Tryz.prog W= .ok (.int .u8 i) W:=λW=>ab1 W hir;have HXB:=ah (CX hir);rw[gW]at hyl;go_wp2_with (at_builtin;refine wpList_append_byte rfl _ _ rfl W1.heap.size _ _ rfl HY.out _ i HXB.out rfl (by rw[hyl];omega) HZ.out.size ?_;intro v2 w2 h1 h2;refine Hid.out ?_);refine ah ?_;have HY3:Hid (Bytes W1.heap.size w2 v2 (Kj s i)):=h1;have HZ3:Hid (Below W1.heap.size W1 w2):=HZ.out.trans h2.below;have hkl:(Kj s i).length=s.aj.length+1:=by unfold Kj;rw[pJ,hyl];rfl
     clear h1 h2 HY HZ hcv HXB hyl;generalize hX:Kj s i=X at HY3 Ip Td hkl;clear hX;have hxm:X.length<=maxLen:=by unfold maxLen;omega
     have HXM:=ah hxm;clear hxm;have HKL:=ah hkl;clear hkl;rcases HY3.out.2 with⟨_,h0⟩|⟨g,cap,cur,rfl,hgb,hg1,hg2,hg3,hg4,hg5⟩
     .exact absurd h0 (by have:=HKL.out;omega)
     clear hgb hg1 hg2 hg3 hg4 hg5;have UC:Hid (∀W:World,RowKit.Below w2.heap.size w2 W->(convert 101 9 (.slice (some ⟨g,0,none⟩) X.length cap)).run Tryz.prog W= .ok (.string ⟨X.toArray⟩) W):=λW hW=>
      run_convert_bytes_back (P:=Tryz.prog) W 101 9 5 ⟨g,0,none⟩ cap X Tryz.underlying101 Tryz.underlying5 Tryz.underlying9 (λj hj=>World.ownsRow.cells (show World.ownsRow _ _ _ _ _ _ _ from ownsRow_below HY3.out hW) (g:=g) rfl j _ (by simp[Lib.byteCells,hj]))
     have hcv:=UC.out w2 (aC _ _);have WK:Hid (RowKit.Below w.heap.size w w2):=ay HB1.out HZ3.out;obtain⟨y,kn,hrun,hk1,hk0⟩:=(HM.out.below WK.out).look HXM.out;have e0:=(HKE.out.below WK.out).cell (i:=0) rfl;cases kn with
     |true=>
      have HY1:Hid (y=E):=by show _=_;rw[ahG.out];exact Td.out y (hk1 rfl)
      clear hk1 hk0;go_wp2;go_ret;exact⟨congrArg (λb=>Ending.returned (.bool b)) HY1.out,FY HM.out WK.out⟩
     |false=>
      obtain rfl:=hk0 rfl;have p0:=(HPB.out.below WK.out).cell (i:=0) rfl;have hpx:P.length<=9223372036854775807:=by have h1:=HPA.out.2.2.1;have h2:=HPA.out.2.2.2;unfold maxLen at h2;omega
      clear hk0 hk1;go_wp2
      go_loopg [63,12] P.length (λgk v63 v12 wr=>∃j:Nat,gk=P.length - j/\j<=P.length/\v63= .int .i64 j/\v12= .bool ((P.take j).any (λp=>C.sees s p i))/\Hid (RowKit.Below w2.heap.size w2 wr))
      case atStart=>exact⟨0,rfl,aZ _,rfl,rfl,aC _ _⟩
      case round=>
       obtain⟨j,hgj,hj,rfl,rfl,HW⟩:=hrel;have Nj:=ah hgj;clear hgj;clear hcv hrun e0 p0;have HWW:Hid (RowKit.Below w.heap.size w wr):=ay WK.out HW.out;by_cases hlt:j<P.length
       .obtain⟨x,hx⟩:∃x,P[j]?=some x:=⟨_,aW hlt⟩
        obtain⟨pb,po,hA,hbl,hcl⟩:=(HPA.out.below (by omega) HWW.out).1.form (by omega) (by omega);subst hA;have x0:wr.cell? ⟨pb,po+j,none⟩=some (.int .i64 x):=(hcl j (by omega)).trans (fI hx);have HAS:=ah (YS hx (λp=>C.sees s p i));have j0:(j:Int)<(P.length:Int):=by omega
        have j1:(0:Int)<=(j:Int):=by omega
        clear hcl hx;have Nn:=ah (LD.out wr (ay HZ3.out HW.out));obtain⟨c0,c1,c2,c3,c4,c5,c6⟩:=Nn.out.cells;simp only at c0 c1 c2 c3 c4 c5 c6;have Mi:=ah (ael.out.below (ay HZ3.out HW.out));have s0:=Mi.out.cell (i:=0) rfl;have s1:=Mi.out.cell (i:=1) rfl;have s2:=Mi.out.cell (i:=2) rfl;have s3:=Mi.out.cell (i:=3) rfl;generalize(P.take j).any (λp=>C.sees s p i)=acc at HAS⊢;cases acc with
        |true=>
         go_wp2
         go_roundg (P.length - (j+1))
         case measure=>rw[Nj.out];omega
         case rel=>exact⟨j+1,rfl,by omega,by go_num,by rw[HAS.out,Bool.true_or],HW⟩
        |false=>
         have hse:=NJ ⟨⟨g_,h_⟩,⟨ig,iq⟩,⟨some ⟨ab,nD,none⟩,gD⟩,⟨iM,gB⟩,⟨gT,gU⟩⟩ C ⟨⟨jw,iJ⟩,⟨jN,iC⟩,⟨kP,fK⟩⟩ s x i wr Nn.out.con (HS.out.below HWW.out);simp only[CV.val,CV.cells,TV.val,TV.cells,ak.cells]at hse;have Wv:=ah hse;clear hse;generalize C.sees s x i=q at HAS Wv;go_wp2_with (go_at_call 76;refine Wv.out.mono ?_;rintro e z ⟨rfl,hz⟩;refine Hid.out ?_);refine ah ?_;have l9:Hid (RowKit.Below w2.heap.size w2 z):=ay HW.out hz;clear hz Wv Nn Mi c0 c1 c2 c3 c4 c5 c6 s0 s1 s2 s3 x0;go_wp2
         go_roundg (P.length - (j+1))
         case measure=>rw[Nj.out];omega
         case rel=>exact⟨j+1,rfl,by omega,by go_num,by rw[HAS.out,Bool.false_or],l9⟩
       .obtain rfl:j=P.length:=by omega
        rw[gW];have HEV:Hid (P.any (λp=>C.sees s p i)=C.rF P s i):=rfl;have HEQ:Hid (P.any (λp=>C.sees s p i)=E):=by show _=_;rw[ahG.out];rfl
        generalize P.any (λp=>C.sees s p i)=y at HEV HEQ⊢;have hcv:=UC.out wr HW.out;have e0:=(HKE.out.below HWW.out).cell (i:=0) rfl;obtain⟨W9,hput,hm9,hu9⟩:=(HM.out.below HWW.out).put HXM.out (y:=y) (by rw[HEV.out];exact Ip.out) HN.out;have HM9:=ah hm9;have HU9:Hid (aH (λk=>k=bm) w W9):=((FY HM.out HWW.out).2).trans hu9 (λ_ _ h=>h);clear hm9 hu9;go_wp2;go_ret;exact⟨congrArg (λb=>Ending.returned (.bool b)) HEQ.out,HM9.out,HU9.out⟩
end
section
open Go.RowKit Go.Shelf Go.Sort
def Safe(M:Nat->Prop)(o:Option Nat)(w:World)(t:TV)(s:ak):Prop:=∀w',aH (λk=>some k=o\/M k) w w'->bF w' t s
section
variable {M:Nat->Prop} {o o':Option Nat} {w w':World} {t:TV} {s:ak}
theorem Safe.at(h:Safe M o w t s):bF w t s:=h w (aH.refl _ _)
theorem Safe.turn{S:Nat->Prop}(h:Safe M o w t s)(hu:aH S w w')(hS:∀k,k<w.heap.size->S k->some k=o\/M k)(ho:o'=o\/∀g,o'=some g->w.heap.size<=g):Safe M o' w' t s:=λw'' hu'=>
 h w'' ((hu.mono hS).trans hu' (λi hi e=>by
  rcases e with e|e
  .rcases ho with ho|ho
   .exact .inl (e.trans ho)
   .have:=ho i e.symm;omega
  .exact .inr e))
theorem Safe.new{z:World}(hs:bF w t s)(hn:p9 z.heap.size t)(ho:∀k,(some k=o\/M k)->k<z.heap.size):Safe M o w t s:=λ_ hu=>hs.qH hn hu ho
end
def tF(Q:TV->ak->Prop)(w:World)(b:Nat)(F:List ak):Prop:=
 ∃D:DataW Value,w.ownsMap Tryz.prog 9 R1 b (Maps.size D) D/\Maps.size D=F.length/\(F.map ak.text).Nodup/\
  (∀s∈F,∃t:TV,(∀z,D.atKey (.string s.text) z= .held (t.val s))/\Q t s)/\(∀k,Maps.has D k=true->∃s∈F,k= .string s.text)
section
variable {Q Q':TV->ak->Prop} {w w':World} {b:Nat} {F:List ak}
theorem YT(t:TV):p9 0 t:=⟨λ_ _ _=>aZ _,λ_ _ _=>aZ _,λ_ _ _=>aZ _⟩
theorem tF.Ub(h:tF Q w b F)(hq:∀t s,Q t s->bF w t s):jA 0 w b F:=by
 obtain⟨D,h1,h2,h3,h4,h5⟩:=h;exact⟨D,h1,h2,h3,λs hs=>(h4 s hs).imp (λt ht=>⟨ht.1,hq t s ht.2,YT t⟩),h5⟩
theorem tF.imp(h:tF Q w b F)(hq:∀t s,Q t s->Q' t s):tF Q' w b F:=by
 obtain⟨D,h1,h2,h3,h4,h5⟩:=h;exact⟨D,h1,h2,h3,λs hs=>(h4 s hs).imp (λt ht=>⟨ht.1,hq t s ht.2⟩),h5⟩
theorem tF.blk(h:tF Q w b F):fB w b:=by
 obtain⟨D,⟨es,c,hb,_⟩,_⟩:=h;exact⟨es,c,hb⟩
theorem tF.keep{S:Nat->Prop}(h:tF Q w b F)(hu:aH S w w')(hb:¬S b):tF Q w' b F:=by
 obtain⟨D,⟨es,c,h1,h2⟩,h3⟩:=h;exact⟨D,⟨es,c,hu.keep h1 hb,h2⟩,h3⟩
theorem tF.nodup(h:tF Q w b F):(F.map ak.text).Nodup:=by
 obtain⟨D,_,_,h3,_⟩:=h;exact h3
theorem tF.made(Q:TV->ak->Prop)(w:World):tF Q (w.alloc (.map #[] 0)) w.heap.size []:=
 ⟨.map [],World.ownsMap_made _ _ _ _,rfl,List.nodup_nil,by simp,λk hk=>by cases hk⟩
theorem tF.put(h:tF Q w b F){s:ak}(hn:s.text∉F.map ak.text){t:TV}(hq:Q t s)(hl:s.text.length<=maxLen)(hF:F.length<1000000):
 ∃w',(Instr.mapUpdate 142 (.map (some b)) (.string ⟨s.text.toArray⟩) (t.val s)).run Tryz.prog w= .ok () w'/\tF Q w' b (F++[s])/\aH (λk=>k=b) w w':=by
 obtain⟨D,h1,h2,h3,h4,h5⟩:=h;obtain⟨w',hrun,hown,htr⟩:=h1.store (t:=142) (e:=48) xJ Tryz.underlying142 (by rw[h2];unfold maxLen;omega) (J_ hl) (val:=t.val s) (d:=.held (t.val s)) (ps:=[]) rfl;obtain⟨hu,_⟩:=uQ htr;have hnot:Maps.has D (.string s.text)=false:=by
  cases hh:Maps.has D (.string s.text)with
  |false=>rfl
  |true=>
   obtain⟨s',hs',e⟩:=h5 _ hh;exact absurd (dF.2 ⟨s',hs',(Lit.string.inj e).symm⟩) hn
 refine⟨w',hrun,⟨D.put (.string s.text) (.held (t.val s)),wN hown,?_,?_,?_,?_⟩,hu⟩
 .rw[Maps.size_put (h1.tidy xJ),hnot]
  simp[h2]
 .rw[tK,List.nodup_append]
  exact⟨h3,by simp,λa ha b hb e=>by simp at hb;rw[e,hb]at ha;exact hn ha⟩
 .intro x hx
  rcases dJ.1 hx with hx|hx
  .obtain⟨t',ht',hq'⟩:=h4 x hx
   refine⟨t',λz=>?_,hq'⟩;rw[Maps.atKey_put_other (λe=>by injection e with e;exact hn (by rw[<-e];exact dF.2 ⟨x,hx,rfl⟩))];exact ht' z
  .rw[d_]at hx
   subst hx;exact⟨t,λz=>Maps.atKey_put_same h1.isMap (xJ.key (J_ hl)) _ _,hq⟩
 .intro k hk
  by_cases e:k= .string s.text
  .exact⟨s,by simp,e⟩
  .rw[Maps.has_put_other e]at hk
   obtain⟨s',hs',e'⟩:=h5 k hk;exact⟨s',List.mem_append_left _ hs',e'⟩
end
def eD(M:Nat->Prop)(B:Nat)(w:World)(v:Value)(R:List ak):Prop:=
 ∃ts:List TV,ts.length=R.length/\w.ownsRow B 48 4 v R.length ((R.zip ts).flatMap (λp=>TV.cells p.2 p.1))/\∀(i:Nat)(s:ak)(t:TV),R[i]?=some s->ts[i]?=some t->Safe M v.ownBlock w t s
theorem eD.nil(M:Nat->Prop)(B:Nat)(w:World):eD M B w (.slice none 0 0) []:=⟨[],rfl,World.ownsRow_nil _ _ _ _,λi s t hs=>by simp at hs⟩
theorem eD.keep{M S:Nat->Prop}{B:Nat}{w w':World}{v:Value}{R:List ak}(h:eD M B w v R)(hu:aH S w w')(hS:∀k,k<w.heap.size->S k->M k)(hg:∀g,v.ownBlock=some g->¬S g):eD M B w' v R:=by
 obtain⟨ts,h1,h2,h3⟩:=h;exact⟨ts,h1,bZ h2 hu hg,λi s t hs ht=>(h3 i s t hs ht).turn hu (λk hk e=>.inr (hS k hk e)) (.inl rfl)⟩
theorem eD.ret{M:Nat->Prop}{B:Nat}{w:World}{v:Value}{R:List ak}(h:eD M B w v R):∃A c,v= .slice A R.length c/\bG 0 w ⟨A,c⟩ R:=by
 obtain⟨ts,h1,h2,h3⟩:=h;obtain⟨A,c,rfl,hAt⟩:=sI h2 (cells_one _);exact⟨A,c,rfl,λb off e=>aZ _,ts,h1,hAt,λi s t hs ht=>⟨(h3 i s t hs ht).at,YT t⟩⟩
theorem eD.own{M:Nat->Prop}{B:Nat}{w:World}{v:Value}{R:List ak}(h:eD M B w v R){g:Nat}(hg:v.ownBlock=some g):B<=g/\g<w.heap.size/\∃cs,w.heap[g]?=some (.cells cs 48 (0,0)):=by
 obtain⟨ts,_,h2,_⟩:=h;rcases h2.2 with⟨rfl,_⟩|⟨g',cap,cur,rfl,hb,hh,_⟩
 .cases hg
 .simp only[Value.ownBlock,Option.some.injEq]at hg
  subst hg;exact⟨hb,aF hh,cur,hh⟩
theorem qj{M:Nat->Prop}{W:World}{ops:Array Oper}{rest:List Oper}{o:Oper}{a:Act}{Q:Exit->Act->World->Prop}
 (hg:o.guard=none)(so x:Operand)(hop:o.op=Op.call {callee:=Callee.builtin Builtin.append,args:=#[so,x],argTypes:=#[41,41]})
 (B:Nat)(v:Value)(R:List ak)(hs:a.eval so=v)(hown:eD M B W v R)(t:TV)(s:ak)(hst:Safe M v.ownBlock W t s)(arr:Array Value)(harr:arr=(t.cells s).toArray)
 (hx:a.eval x= .slice (some ⟨W.heap.size,0,none⟩) 1 1)(hlen:R.length<=1000000)(hBW:B<=W.heap.size)
 (hK:∀A' c' w',eD M B w' (.slice A' (R++[s]).length c') (R++[s])->aH (λk=>some k=v.ownBlock) W w'->((Value.slice A' (R++[s]).length c').ownBlock=v.ownBlock\/∀g,(Value.slice A' (R++[s]).length c').ownBlock=some g->W.heap.size<=g)->wpList Tryz.prog ops Q rest (a.put o.dst (.slice A' (R++[s]).length c')) w'):
 wpList Tryz.prog ops Q (o::rest) a (W.alloc (.cells arr 48)):=by
 subst harr;obtain⟨ts,h1,h2,h3⟩:=hown;obtain⟨is,hsi,hsz,hss,hsb⟩:=info_parts' (P:=Tryz.prog) (t:=48) (z:=some fV) (s:=4) (b:=80) (by kernel_rfl);have hba:Below W.heap.size W (W.alloc (.cells (t.cells s).toArray 48)):=aN (aC _ _) _;refine wpList_append_own_at _ hg so x 41 hop B 48 is fV 4 80 Tryz.underlying41 hsi hsz hss hsb rfl (by decide) v R.length _ hs (World.ownsRow.alloc h2 _) ⟨W.heap.size,0,none⟩ 1 1 (t.cells s) hx rfl
  (λj u hj=>by
   rw[Addr.add_lit,aL _ _ (0+j) _ _ _ (bQ W _)];simpa using hj) (by
   intro u hu;simp only[TV.cells,ak.cells,dI,gN,or_false]at hu;rcases hu with rfl|rfl|rfl|rfl<;>rfl) (by unfold maxLen;omega) (by omega) (by simp;omega) ?_
 intro v' w' hown' hgrow _ hblk;have adp:aH (λk=>some k=v.ownBlock) (W.alloc (.cells (t.cells s).toArray 48)) w':=⟨hgrow.os,hgrow.tape,hgrow.output,hgrow.size,λk hk hn=>hgrow.block k hk hn⟩;have hU:aH (λk=>some k=v.ownBlock) W w':=(((aH.of_below hba).mono (λi hi hle=>by omega)).trans adp (λ_ _ e=>e));have ho:v'.ownBlock=v.ownBlock\/∀g,v'.ownBlock=some g->W.heap.size<=g:=by
  rcases hblk with hblk|hblk
  .exact .inl hblk
  .exact .inr (λg e=>by rw[hblk]at e;injection e with e;simp at e;omega)
 suffices hso:eD M B w' v' (R++[s]) by
  obtain⟨A',c',e,_⟩:=hso.ret;subst e;exact hK A' c' w' hso hU ho
 refine⟨ts++[t],by simp[h1],?_,λi x' t' hx' ht'=>?_⟩
 .rw[List.zip_append h1.symm,Ef,pJ,xS]
  simpa using hown'
 .have hsf:∀t' s',Safe M v.ownBlock W t' s'->Safe M v'.ownBlock w' t' s':=λt' s' h=>h.turn hU (λk _ e=>.inl e) ho
  by_cases hi:i<R.length
  .rw[nG hi]at hx'
   rw[nG (by rw[h1];exact hi)]at ht';exact hsf _ _ (h3 i x' t' hx' ht')
  .rw[qL (by omega)]at hx'
   rw[qL (by rw[h1];omega),h1]at ht';cases hk:i - R.length with
   |zero=>
    rw[hk]at hx' ht';simp at hx' ht';rw[<-hx',<-ht'];exact hsf _ _ hst
   |succ q=>rw[hk]at hx';simp at hx'
structure qV(M:Nat->Prop)(B cm cq bf:Nat)(w:World)(v:Value)(F:List ak):Prop where
 D7:Own w 142 cm [.map (some bf)]
 Sk:Own w 41 cq [v]
 set:tF (Safe M v.ownBlock w) w bf F
 V_:eD M B w v F
theorem qV.keep{M S:Nat->Prop}{B cm cq bf:Nat}{w w':World}{v:Value}{F:List ak}(h:qV M B cm cq bf w v F)(hu:aH S w w')(hS:∀k,k<w.heap.size->S k->M k)(h1:¬S cm)(h2:¬S cq)(h3:¬S bf)(hg:∀g,v.ownBlock=some g->¬S g):qV M B cm cq bf w' v F:=
 ⟨h.D7.keep hu h1,h.Sk.keep hu h2,(h.set.keep hu h3).imp (λ_ _ hs=>hs.turn hu (λk hk e=>.inr (hS k hk e)) (.inl rfl)),h.V_.keep hu hS hg⟩
theorem qV.below{M:Nat->Prop}{B cm cq bf:Nat}{w w':World}{v:Value}{F:List ak}(h:qV M B cm cq bf w v F)(hb:Below w.heap.size w w'):qV M B cm cq bf w' v F:=by
 have h1:=h.D7.lt;have h2:=h.Sk.lt;obtain⟨es,c,h3⟩:=h.set.blk;have h3:=aF h3;refine h.keep (aH.of_below hb) (λk hk e=>by omega) (by omega) (by omega) (by omega) (λg hg e=>?_);have:=(h.V_.own hg).2.1;omega
theorem qV.Bq{M S:Nat->Prop}{B cm cq bf:Nat}{w w':World}{v:Value}{F:List ak}(h:qV M B cm cq bf w v F)(hu:aH S w w')(hS:∀k,S k->fB w k/\M k)(h3:¬S bf):qV M B cm cq bf w' v F:=
 h.keep hu (λk _ e=>(hS k e).2) (λe=>h.D7.Ua (hS _ e).1) (λe=>h.Sk.Ua (hS _ e).1) h3 (λg hg e=>by
  obtain⟨_,_,cs,hc⟩:=h.V_.own hg;obtain⟨es,c,hm⟩:=(hS _ e).1;rw[hc]at hm;cases hm)
end
section
open Go.RowKit Go.Shelf Go.Sort
def MU(M:Nat->Prop)(B cm cq bf:Nat)(v:Value)(F:List ak)(s:ak)(w:World)(e:Ending)(w':World):Prop:=
 e= .returned (.bool (decide ((qI F s).length<=300)))/\∃v',qV M B cm cq bf w' v' (qI F s)/\aH (λk=>some k=v.ownBlock\/k=bf\/k=cq) w w'/\(v'.ownBlock=v.ownBlock\/∀g,v'.ownBlock=some g->w.heap.size<=g)
theorem Uc{M:Nat->Prop}{B cm cq bf:Nat}{w:World}{v:Value}{F:List ak}(H:qV M B cm cq bf w v F)(hMf:M bf)(hMq:M cq)(hB:B<=w.heap.size)(t:TV)(s:ak)(hS:Safe M v.ownBlock w t s)(hR:H8 s)(hT:Tab w)(hF:F.length<=100000):
 Calls Tryz.prog 77 #[t.val s,.pointer (some ⟨cm,0,none⟩),.pointer (some ⟨cq,0,none⟩)] w (MU M B cm cq bf v F s w):=by
 have hlt1:=H.D7.lt;have hlt2:=H.Sk.lt;have HH:=ah H;clear H;obtain⟨⟨jw,iJ⟩,⟨jN,iC⟩,⟨kP,fK⟩⟩:=t;have HTM:=ah (OP hR);have aem:Hid (∀z,Below w.heap.size w z->Calls Tryz.prog 25 #[TV.val ⟨⟨jw,iJ⟩,⟨jN,iC⟩,⟨kP,fK⟩⟩ s] z (dX (.string ⟨s.text.toArray⟩) z)):=λz hz=>Rq _ s z (hS.at.below hz) hR (hT.below hz);have HS:=ah hS;clear hS;have JN:Hid (M bf/\M cq):=⟨hMf,hMq⟩;clear hMf hMq hT hR;simp only[TV.val,TV.cells,ak.cells]at aem⊢;go_enter Tryz.func77,Tryz.ntmps77;go_upto_region 1 with(fail)
 generalize hW0:World.alloc _ _=W0;obtain⟨HB0,h0⟩:=bx1 hW0;have HX0:Hid (Own W0 48 w.heap.size [.int .i64 s.day,.slice jw s.aj.length iJ,.slice jN s.used.length iC,.slice kP s.marks.length fK]):=⟨[],by rw[bV];exact h0⟩;clear hW0 h0;have x0:=HX0.out.cell (i:=0) rfl;have x1:=HX0.out.cell (i:=1) rfl;have x2:=HX0.out.cell (i:=2) rfl;have x3:=HX0.out.cell (i:=3) rfl;have Qp:=ah (aem.out W0 HB0.out);obtain⟨tx,htx⟩:∃tx,tx=s.text:=⟨_,rfl⟩;rw[<-htx]at Qp HTM;have HE:=ah htx;clear htx;go_wp2_with (go_at_call 25;refine Qp.out.mono ?_;rintro e z ⟨rfl,hz⟩;refine Hid.out ?_);refine ah ?_;have YU:Hid (RowKit.Below w.heap.size w z):=ay HB0.out hz;have HXz:=ah (HX0.out.below hz);have HHz:=ah (HH.out.below YU.out);have hF0:=HHz.out.set.Ub (λ_ _ h=>h.at);obtain⟨d,a1,n1,c1,a2,n2,c2,a3,n3,c3,hrun⟩:=hF0.LV HTM.out;unfold stV at hrun;obtain⟨bq,hbq⟩:∃b,b=decide (tx∈F.map ak.text):=⟨_,rfl⟩;rw[<-hbq]at hrun;have HBQ:=ah hbq;clear hbq;have y0:=HHz.out.D7.cell (i:=0) rfl;clear x0 x1 x2 x3 Qp aem hF0 HX0 HB0 hz;go_upto_region 3 with(fail)
 generalize hW1:World.alloc _ _=W1;obtain⟨hb1,_⟩:=bx1' hW1;have HB1:Hid (RowKit.Below w.heap.size w W1):=ay YU.out hb1;have nY:=ah (HXz.out.below hb1);have VH:=ah (HHz.out.below hb1);clear hW1 y0 hrun HXz HHz YU hb1;have y0:=VH.out.D7.cell (i:=0) rfl;cases bq with
 |true=>
  have HQ:Hid (decide (tx∈F.map ak.text)=true):=HBQ.out.symm;have O_:Hid (qI F s=F):=by show _=_;rw[qI,<-HE.out,HQ.out];rfl
  have hlf:∀ty,(Builtin.len_ #[142] ty #[.map (some bf)]).run Tryz.prog W1= .ok (.int .i64 (F.length:Nat)) W1:=λty=>(VH.out.set.Ub (λ_ _ h=>h.at)).len ty;have HDL:Hid (decide ((F.length:Int)<=300)=decide (F.length<=300)):=decide_eq_decide.2 (by omega);go_wp2;go_ret;unfold MU;rw[O_.out];exact⟨congrArg (λb=>Ending.returned (.bool b)) HDL.out,v,VH.out,(aH.of_below HB1.out).mono (λi hi hle=>by omega),.inl rfl⟩
 |false=>
  have HQ:Hid (decide (tx∈F.map ak.text)=false):=HBQ.out.symm;have O_:Hid (qI F s=F++[s]):=by show _=_;rw[qI,<-HE.out,HQ.out];rfl
  have hS1:Safe M v.ownBlock W1 ⟨⟨jw,iJ⟩,⟨jN,iC⟩,⟨kP,fK⟩⟩ s:=HS.out.turn (aH.of_below HB1.out) (λk hk e=>by omega) (.inl rfl);obtain⟨W2,hput,hs2,hu2⟩:=VH.out.set.put (s:=s) (by rw[<-HE.out];exact of_decide_eq_false HQ.out) hS1 (by rw[<-HE.out];exact HTM.out) (by omega);rw[<-HE.out]at hput;simp only[TV.val,TV.cells,ak.cells]at hput;have hnb:∀k,k=bf->fB W1 k/\M k:=λk hk=>by rw[hk];exact⟨VH.out.set.blk,JN.out.1⟩
  have hS2:Safe M v.ownBlock W2 ⟨⟨jw,iJ⟩,⟨jN,iC⟩,⟨kP,fK⟩⟩ s:=hS1.turn hu2 (λk hk e=>.inr (hnb k e).2) (.inl rfl);have zn:=ah (nY.out.Bq hu2 (λk hk=>(hnb k hk).1));have BF:=ah (VH.out.D7.Bq hu2 (λk hk=>(hnb k hk).1));have FD:=ah (VH.out.Sk.Bq hu2 (λk hk=>(hnb k hk).1));have HR2:Hid (eD M B W2 v F):=VH.out.V_.keep hu2 (λk hk e=>(hnb k e).2) (λg hg e=>by
   obtain⟨_,_,cs,hc⟩:=VH.out.V_.own hg;obtain⟨es,c,hm⟩:=(hnb _ e).1;rw[hc]at hm;cases hm)
  have HG2:Hid (tF (Safe M v.ownBlock W2) W2 bf (F++[s])):=hs2.imp (λ_ _ h=>h.turn hu2 (λk hk e=>.inr (hnb k e).2) (.inl rfl));have HS2:=ah hS2;have vZ:Hid (aH (λk=>k=bf) w W2):=((aH.of_below HB1.out).mono (λi hi hle=>by omega)).trans hu2 (λ_ _ h=>h);have hsz2:B<=W2.heap.size:=bL hB vZ.out.size;have HGN:Hid (∀g,v.ownBlock=some g->g≠cq/\g≠cm):=λg hg=>by
   obtain⟨_,_,cs,hc⟩:=HR2.out.own hg;refine⟨?_,?_⟩
   .rintro rfl
    obtain⟨tl,h⟩:=FD.out;rw[hc]at h;simp at h
   .rintro rfl
    obtain⟨tl,h⟩:=BF.out;rw[hc]at h;simp at h
  have w0:=nY.out.cell (i:=0) rfl;have w1:=nY.out.cell (i:=1) rfl;have w2:=nY.out.cell (i:=2) rfl;have w3:=nY.out.cell (i:=3) rfl;clear hS1 hS2 hs2 hu2 hnb VH nY HB1;have x0:=zn.out.cell (i:=0) rfl;have x1:=zn.out.cell (i:=1) rfl;have x2:=zn.out.cell (i:=2) rfl;have x3:=zn.out.cell (i:=3) rfl;have q0:=FD.out.cell (i:=0) rfl;go_wp2_with (at_builtin;refine qj rfl _ _ rfl B v F rfl HR2.out ⟨⟨jw,iJ⟩,⟨jN,iC⟩,⟨kP,fK⟩⟩ s HS2.out _ rfl rfl (by omega) hsz2 ?_;intro A3 c3 W3 hq3 hu3 ho3;refine Hid.out ?_);refine ah ?_;have JI:Hid (Own W3 41 cq [v]):=FD.out.keep hu3 (λe=>(HGN.out cq e.symm).1 rfl);have Ni:Hid (Own W3 142 cm [.map (some bf)]):=BF.out.keep hu3 (λe=>(HGN.out cm e.symm).2 rfl);have HG3:=ah ((HG2.out.keep hu3 (λe=>by
   obtain⟨_,_,cs,hc⟩:=HR2.out.own e.symm;obtain⟨es,c,hm⟩:=HG2.out.blk;rw[hc]at hm;cases hm)).imp (λ_ _ h=>h.turn hu3 (λk hk e=>.inl e) ho3))
  have HR3:=ah hq3;have Au:Hid (aH (λk=>some k=v.ownBlock\/k=bf\/k=cq) w W3):=(vZ.out.mono (λi hi e=>.inr (.inl e))).trans hu3 (λi hi e=>.inl e);have HO3:Hid ((Value.slice A3 (F++[s]).length c3).ownBlock=v.ownBlock\/∀g,(Value.slice A3 (F++[s]).length c3).ownBlock=some g->w.heap.size<=g):=ho3.imp id (λh g hg=>bL vZ.out.size (h g hg));rw[show(F++[s]).length=F.length+1 by simp]at HG3 HR3 HO3;have q3:=JI.out.cell (i:=0) rfl;have f3:=JI.out.frozen 0;have m3:=Ni.out.cell (i:=0) rfl;clear hq3 hu3 ho3 w0 w1 w2 w3 y0 hput x0 x1 x2 x3 q0 zn BF FD HR2 HG2 HS2 vZ;go_upto_region 6 with(fail)
  generalize hW4:World.setCell _ _ _=W4;have RU:aH (λk=>k=cq) W3 W4:=by rw[<-hW4];exact(aH.refl (λk=>k=cq) W3).setCell (p:=⟨cq,0,none⟩) (.inl rfl) _
  have Wt:Hid (Own W4 41 cq [Value.slice A3 (F.length+1) c3]):=by
   have h:=JI.out.set (i:=0) (by simp) (Value.slice A3 (F.length+1) c3);rw[hW4]at h;exact h
  have hcm:¬cm=cq:=by
   rintro rfl;obtain⟨tl,h1⟩:=JI.out;obtain⟨tl',h2⟩:=Ni.out;rw[h1]at h2;simp at h2
  have hgo:∀g,(Value.slice A3 (F.length+1) c3).ownBlock=some g->¬g=cq:=λg hg e=>by
   obtain⟨_,_,cs,hc⟩:=HR3.out.own hg;obtain⟨tl,h1⟩:=JI.out;rw[e,h1]at hc;simp at hc
  have hbq:¬bf=cq:=λe=>JI.out.Ua (by rw[<-e];exact HG3.out.blk);have HA4:Hid (qV M B cm cq bf W4 (Value.slice A3 (F.length+1) c3) (F++[s])):=
   ⟨Ni.out.keep RU hcm,Wt.out,(HG3.out.keep RU hbq).imp (λ_ _ h=>h.turn RU (λk hk e=>.inr (by rw[e];exact JN.out.2)) (.inl rfl)),HR3.out.keep RU (λk hk e=>by rw[e];exact JN.out.2) hgo⟩
  have Zy:Hid (aH (λk=>some k=v.ownBlock\/k=bf\/k=cq) w W4):=Au.out.trans RU (λi hi e=>.inr (.inr e));clear hW4 RU hcm hgo hbq Wt Ni HG3 HR3 JI Au q3 f3 m3;have m4:=HA4.out.D7.cell (i:=0) rfl;have hlf:∀ty,(Builtin.len_ #[142] ty #[.map (some bf)]).run Tryz.prog W4= .ok (.int .i64 ((F.length+1:Nat):Int)) W4:=λty=>by
   have h:=(HA4.out.set.Ub (λ_ _ h=>h.at)).len ty;rw[pJ,xS]at h;exact h
  have HDL:Hid (decide ((F.length:Int)+1<=300)=decide (F.length+1<=300)):=decide_eq_decide.2 (by omega);go_wp2;go_ret;unfold MU;rw[O_.out];refine⟨?_,_,HA4.out,Zy.out,HO3.out⟩;rw[pJ,xS,<-HDL.out];first|rfl|simp
end
section
open Go.RowKit Go.Shelf
theorem Sl(C:aB)(i:Nat)(a:jg)(s:ak):(C.shift i a s).day=s.day:=by
 unfold aB.shift;cases (a.kind==3)<;>rfl
theorem YV(C:aB)(i:Nat)(a:jg)(s:ak):(C.act i a s).day=s.day:=by
 unfold aB.act;cases ((a.kind !=1)&&(s.used.getD i false))with
 |true=>rfl
 |false=>
  cases (a.kind !=1)with
  |false=>rfl
  |true=>exact Sl C i a _
def uw(l:List Int):Nat:=l.countP (·== -1)
theorem zR(l m:List Int):uw (l++m)=uw l+uw m:=List.countP_append
theorem Br{l:List Int}(h:∀a∈l,a≠ -1):uw l=0:=List.countP_eq_zero.2 (λa ha=>by simpa using h a ha)
theorem Ld{C:aB}{s:ak}{x:Int}(hO:bR C s)(hd:s.day<C.days)(hx:x= -1\/0<=x/\x<C.acts.length):C.eP s x=0/\bR C (C.next s x)/\(C.next s x).day=s.day+(if x= -1 then 1 else 0):=by
 rcases hx with rfl|⟨h0,h1⟩
 .have q1:C.gF s=true:=(jR C s).2 hO
  have q2:decide ((C.acts.length:Int)<= -1)=false:=by simp;omega
  have q3:(s.day==C.days)=false:=by simp;omega
  refine⟨by simp only[aB.eP,q1,q2,q3];rfl,Tv hO hd,rfl⟩
 .obtain⟨n,rfl⟩:∃n:Nat,x=n:=⟨x.toNat,by omega⟩
  obtain⟨a,ha⟩:∃a,C.acts[n]?=some a:=⟨C.acts[n]'(by omega),aW _⟩;have e:C.next s n=C.act n a s:=by
   have h:((n:Int)== -1)=false:=by simp
   simp only[aB.next,h,cond_false,xg,ha]
  have q1:C.gF s=true:=(jR C s).2 hO;have q2:decide ((n:Int)< -1)=false:=by simp
  have q3:decide ((C.acts.length:Int)<=(n:Int))=false:=by simp;omega
  have q4:(s.day==C.days)=false:=by simp;omega
  refine⟨by simp only[aB.eP,q1,q2,q3,q4];rfl,by rw[e];exact Rh hO ha,?_⟩;rw[e,YV,if_neg (by omega),Int.add_zero]
theorem PO{C:aB}(hv:C.valid=true){l:List Int}(ha:∀x∈l,x= -1\/0<=x/\x<C.acts.length)(hd:∀k,k<l.length->(uw (l.take k):Int)<C.days):∀k,k<=l.length->bR C (C.DU (l.take k))/\(C.DU (l.take k)).day=uw (l.take k)
 |0,_=>⟨Co hv,rfl⟩
 |k+1,hk=>by
  obtain⟨h1,h2⟩:=PO hv ha hd k (by omega);have hx:l[k]?=some l[k]:=aW (by omega);obtain⟨_,h3,h4⟩:=Ld h1 (by rw[h2];exact hd k (by omega)) (ha _ (Ac (show k<l.length by omega)));rw[Ie hx,bS hx,zR];refine⟨h3,?_⟩;rw[h4,h2];by_cases e:l[k]= -1
  .rw[if_pos e,e];simp[uw]
  .rw[if_neg e]
   have:uw [l[k]]=0:=Br (λa h=>by rw[d_.1 h];exact e);rw[this];simp
theorem Good.of{C:aB}(hv:C.valid=true){l:List Int}(hl:l.length<=4000)(ha:∀x∈l,x= -1\/0<=x/\x<C.acts.length)(hd:∀k,k<l.length->(uw (l.take k):Int)<C.days):Good C l:=
 ⟨hv,hl,λk x hx=>by
  have hk:=(bC.1 hx).1;obtain⟨h1,h2⟩:=PO hv ha hd k (by omega);exact(Ld h1 (by rw[h2];exact hd k hk) (ha _ (bT hx))).1⟩
theorem CY{F:List au}(h:Dm F)(hn:dW F)(D:List Int):∀n,uw (blocks F D n)=n
 |0=>rfl
 |n+1=>by
  rw[kR,zR,CY h hn D n];unfold qx;rw[zR,Br (AO h hn D n)];rfl
theorem Kk{F:List au}(h:Dm F)(hn:dW F)(D:List Int){n k:Nat}(hk:k<(blocks F D n).length):uw ((blocks F D n).take k)<n:=by
 cases n with
 |zero=>simp[blocks]at hk
 |succ n=>
  have e:blocks F D (n+1)=(blocks F D n++(kI (eX F D n)).map (iD F))++[-1]:=by rw[kR];unfold qx;rw[uW]
  have h2:uw (blocks F D n++(kI (eX F D n)).map (iD F))=n:=by rw[zR,CY h hn D n,Br (AO h hn D n)];rfl
  rw[e]at hk⊢;rw[pJ,xS]at hk;rw[List.take_append_of_le_length (by omega)];have h3:uw ((blocks F D n++(kI (eX F D n)).map (iD F)).take k)<=uw (blocks F D n++(kI (eX F D n)).map (iD F)):=List.Sublist.countP_le (List.take_sublist _ _);omega
theorem aaQ{C:aB}{f:aM}{T:List au}{OO:List aP}(hok:dU C f=true)(h:jo f.facts f.orders T OO):∀t∈T,0<=t.act/\t.act<(C.acts.length:Int):=λt ht=>by
 have hd:=eB (gQ hok);have h1:=h.tight;rw[iH hd]at h1;obtain⟨x,hx,e⟩:=h1.had ht;have h2:=sP (jQ (gQ hok) x hx).2;have h3:x.act=t.act:=congrArg (λz=>z.2.1) e;omega
theorem lS.good{C:aB}{f:aM}{u:Int}{L:List (List Int)}(h:lS C f u L 0):∀l∈L,l.length<=4000->Good C l:=λl hl h4=>by
 obtain⟨hok,h0,h1,T,OO,hf,hm⟩:=h.mem;obtain⟨day,_,rfl⟩:=(hm l).1 hl;have hact:=I4 hok hf;have hd:=hf.distinct.zF;have h2:=nk hok;have hv:C.valid=true:=by
  unfold dU at hok;simp only[bP]at hok;exact hok.1
 have e:=wE (F:=T) (D:=gK T day) (u:=u) (by simp[gK]) h0 (by omega) hd;rw[e]at h4⊢;refine Good.of hv h4 (λx hx=>?_) (λk hk=>?_)
 .have hb:∀n,∀x∈blocks T (gK T day) n,x= -1\/0<=x/\x<C.acts.length:=λn=>by
   induction n with
   |zero=>intro x hx;simp[blocks]at hx
   |succ n ih=>
    intro x hx;rw[kR]at hx;rcases dJ.1 hx with hx|hx
    .exact ih x hx
    .unfold qx at hx
     rcases dJ.1 hx with hx|hx
     .right
      obtain⟨r,hr,rfl⟩:=dF.1 hx;rw[mY,oI]at hr;obtain⟨i,t,ht,_,rfl⟩:=hr;rw[vG hd (bT ht)];exact aaQ hok hf t (bT ht)
     .left;simpa using hx
  exact hb _ x hx
 .have:=Kk hact hd (gK T day) hk
  omega
end
section
open Go.RowKit Go.Shelf
def aB.rG(C:aB)(l:List Int):List Int:=(C.DU l).marks.map (λm=>jX m.status)
def vW(V r:List Int):List Int:=List.zipWith (λa b=>if a=b then a else 0) V r
def og(n:Nat):List (List Int)->List Int
 |[]=>List.replicate n 0
 |r::rs=>rs.foldl vW r
def I9(i:Nat)(V r:List Int):List Int:=if i=0 then r else vW V r
theorem Sm{n:Nat}{R:List (List Int)}{i:Nat}{r:List Int}(hr:R[i]?=some r):og n (R.take (i+1))=I9 i (og n (R.take i)) r:=by
 cases R with
 |nil=>simp at hr
 |cons a R=>
  cases i with
  |zero=>simp at hr;subst hr;simp[og,I9]
  |succ i=>
   rw[List.getElem?_cons_succ]at hr;simp only[fP,og,I9];rw[if_neg (by omega),qM,hr,tJ];rfl
theorem Le{V r:List Int}{n:Nat}(h1:V.length=n)(h2:r.length=n):(vW V r).length=n:=by simp[vW,h1,h2]
theorem D9{n:Nat}:∀{R:List (List Int)},(∀r∈R,r.length=n)->(og n R).length=n
 |[],_=>by simp[og]
 |a::R,h=>by
  have:∀(R:List (List Int))(a:List Int),a.length=n->(∀r∈R,r.length=n)->(R.foldl vW a).length=n:=λR=>by
   induction R with
   |nil=>intro a h _;exact h
   |cons b R ih=>intro a h h2;exact ih _ (Le h (h2 b (by simp))) (λr hr=>h2 r (jf _ hr))
  exact this R a (h a (by simp)) (λr hr=>h r (jf _ hr))
def dD(C:aB)(fs:List aM)(u:Int)(V:List Int)(er:Int):Prop:=
 ∃(ho:Int)(F:List au)(O:List aP)(e1:Int),mK C fs ho F O e1/\
  ((e1≠0/\er=e1/\V=[])\/
   (e1=0/\∃(L:List (List Int))(e2:Int),lS C ⟨ho,F,O⟩ u L e2/\
    ((e2≠0/\er=e2/\V=[])\/
     (e2=0/\((V=[]/\er=3/\∃l∈L,4000<l.length)\/
      ((∀l∈L,Good C l)/\er=0/\V=og C.clauses.length (L.map C.rG)))))))
def MV(C:aB)(fs:List aM)(u:Int)(w:World)(e:Ending)(w':World):Prop:=
 ∃(A:Option Addr)(c:Nat)(V:List Int)(er:Int),e= .returned (.tuple #[.slice A V.length c,.int .i64 er])/\At w' 1 A V.length c (aY V)/\Below w.heap.size w w'/\dD C fs u V er
theorem I_{C:aB}{f:aM}(h:dU C f=true):C.clauses.length<=400:=by
 simp only[dU,bP]at h;have h:=h.1;simp only[aB.valid,aB.over,bP,iV,pQ,decide_eq_false_iff_not]at h;omega
theorem aeo{V N:List Int}{k:Nat}{x:Int}(hl:N.length=V.length)(hx:N[k]?=some x):(N.take k++V.drop k).set k x=N.take (k+1)++V.drop (k+1):=by
 obtain⟨hk,rfl⟩:=bC.1 hx;apply kM;intro j;rw[j4];have h1:(N.take k).length=k:=by rw[mV];omega
 have h2:(N.take (k+1)).length=k+1:=by rw[mV];omega
 rcases Nat.lt_trichotomy j k with h|h|h
 .rw[if_neg (by omega),nG (by omega),nG (by omega),lU,lU,if_pos h,if_pos (by omega)]
 .subst h
  rw[if_pos rfl,if_pos (by simp;omega),nG (by omega),lU,if_pos (by omega)];exact(aW hk).symm
 .rw[if_neg (by omega),qL (by omega),qL (by omega),h1,h2,List.getElem?_drop,List.getElem?_drop]
  congr 1;omega
theorem aep{V N:List Int}{k:Nat}(hl:N.length=V.length)(hk:k<V.length):(N.take k++V.drop k)[k]?=V[k]?:=by
 have h1:(N.take k).length=k:=by rw[mV];omega
 rw[qL (by omega),h1,List.getElem?_drop];congr 1;omega
theorem Wh{i k:Nat}{V r:List Int}{a b:Int}(hV:V[k]?=some a)(hr:r[k]?=some b):(I9 i V r)[k]?=some (if i=0 then b else if a=b then a else 0):=by
 unfold I9;by_cases h:i=0
 .rw[if_pos h,if_pos h];exact hr
 .rw[if_neg h,if_neg h]
  unfold vW;rw[List.getElem?_zipWith,hV,hr]
theorem aaR{α:Type}{l:List α}{k:Nat}{a:α}(h:l[k]?=some a):l.set k a=l:=by
 apply kM;intro j;rw[j4];by_cases hj:k=j
 .subst hj
  rw[if_pos rfl,if_pos (bC.1 h).1,h]
 .rw[if_neg hj]
attribute [local go_sem] jJ stillUpon bH
theorem lT(v:CV)(C:aB)(sv:SV)(fs:List aM)(u:Int)(w:World)(hC:cK w v C)(hF:dP w sv fs)(hn:fs.length<=100)(hR:∀x∈aG fs,fD x.ref)(hL:(aG fs).length<=400)(hO:(aO fs).length<=4000)(hT:Tab w):
 Calls Tryz.prog 14 #[v.val C,.slice sv.A fs.length sv.c,.int .i64 u] w (MV C fs u w):=by
 obtain⟨⟨hA,hc⟩,⟨uA,uc⟩,⟨aA,ac⟩,⟨kA,kc⟩,⟨oA,oc⟩⟩:=v;obtain⟨sA,sc⟩:=sv;have HC:=ah hC;clear hC;have HF:=ah hF;clear hF;have HT:=ah hT;clear hT;have Vx:=ah hR;clear hR;have HLO:Hid ((aG fs).length<=400/\(aO fs).length<=4000):=⟨hL,hO⟩;clear hL hO;simp only[CV.val,CV.cells];go_enter Tryz.func14,Tryz.ntmps14;go_upto_region 1 with(fail)
 generalize hW0:World.alloc _ _=W0;obtain⟨HB0,h0⟩:=bx1 hW0;have HX0:Hid (uV W0 w.heap.size ⟨⟨hA,hc⟩,⟨uA,uc⟩,⟨aA,ac⟩,⟨kA,kc⟩,⟨oA,oc⟩⟩ C):=⟨HC.out.below HB0.out,⟨[],by rw[bV];exact h0⟩⟩;clear hW0 h0 HC;obtain⟨c0,c1,c2,c3,c4,c5,c6⟩:=HX0.out.cells;simp only at c0 c1 c2 c3 c4 c5 c6;have hj:=Yo ⟨⟨hA,hc⟩,⟨uA,uc⟩,⟨aA,ac⟩,⟨kA,kc⟩,⟨oA,oc⟩⟩ C ⟨sA,sc⟩ fs W0 HX0.out.con (HF.out.below HB0.out) hn Vx.out (bL HLO.out.1 (by omega)) HLO.out.2;simp only[CV.val,CV.cells]at hj;have HJ:=ah hj;clear hj;go_wp2_with (go_at_call 35;refine HJ.out.mono ?_;rintro _ W1 ⟨ho,F,O,e1,A1,d1,B1,b1,rfl,hf,_,hb,hj⟩;refine Hid.out ?_);refine ah ?_;have nY:=ah (HX0.out.below hb);have HB1:Hid (Below w.heap.size w W1):=ay HB0.out hb;have HJ1:=ah hj;have Jy:=ah hf;clear hb hj hf HJ HX0 HB0 c0 c1 c2 c3 c4 c5 c6;go_upto_region 2 with(fail)
 generalize hW2:World.alloc _ _=W2;obtain⟨hb,hh⟩:=bx1' hW2;have zn:=ah (nY.out.below hb);have Qr:Hid (Si W2 W1.heap.size ⟨⟨A1,d1⟩,⟨B1,b1⟩⟩ ⟨ho,F,O⟩):=⟨Jy.out.below hb,⟨[],by rw[bV];exact hh⟩⟩;have HB2:Hid (Below w.heap.size w W2):=ay HB1.out hb;clear hW2 hb hh nY Jy HB1;generalize W1.heap.size=jb at Qr⊢;by_cases he1:e1=0
 case neg=>
  have q1:(e1 !=0)=true:=by simpa using he1
  have HV:Hid (dD C fs u [] e1):=⟨ho,F,O,e1,HJ1.out,.inl ⟨he1,rfl,rfl⟩⟩;clear he1;go_wp2;refine bodyPost_ret (v:=.tuple #[.slice none 0 0,.int .i64 e1]) (by simp[results,Tryz.results14,go_sem]) rfl ⟨none,0,[],e1,rfl,fJ _ _,HB2.out,HV.out⟩
 case pos=>
  subst he1;have HFL:Hid (F.length<=400):=bL HJ1.out.size.1 HLO.out.1;obtain⟨c0,c1,c2,c3,c4,c5,c6⟩:=zn.out.cells;obtain⟨p0,p1,p2⟩:=Qr.out.cells;simp only at c0 c1 c2 c3 c4 c5 c6 p0 p1 p2;have hco:=FB ⟨⟨hA,hc⟩,⟨uA,uc⟩,⟨aA,ac⟩,⟨kA,kc⟩,⟨oA,oc⟩⟩ C ⟨⟨A1,d1⟩,⟨B1,b1⟩⟩ ⟨ho,F,O⟩ u W2 zn.out.con Qr.out.file HFL.out (HT.out.below HB2.out);simp only[CV.val,CV.cells,FV.val,FV.cells]at hco;have Ud:=ah hco;clear hco;go_wp2_with (go_at_call 36;refine Ud.out.mono ?_;rintro _ W3 ⟨L,e2,A3,d3,rfl,hN,hb,hc1⟩;refine Hid.out ?_);refine ah ?_;have uj:=ah (zn.out.below hb);have HB3:Hid (Below w.heap.size w W3):=ay HB2.out hb;have HN:=ah hN;have AB:=ah hc1;clear hb hN hc1 zn Qr HB2 Ud c0 c1 c2 c3 c4 c5 c6 p0 p1 p2;by_cases he2:e2=0
  case neg=>
   have q1:(e2 !=0)=true:=by simpa using he2
   have HV:Hid (dD C fs u [] e2):=⟨ho,F,O,0,HJ1.out,.inr ⟨rfl,L,e2,AB.out,.inl ⟨he2,rfl,rfl⟩⟩⟩;clear he2;go_wp2;refine bodyPost_ret (v:=.tuple #[.slice none 0 0,.int .i64 e2]) (by simp[results,Tryz.results14,go_sem]) rfl ⟨none,0,[],e2,rfl,fJ _ _,HB3.out,HV.out⟩
  case pos=>
   subst he2;have hLx:L.length<=9223372036854775807:=by have:=HN.out.len;omega
   go_wp2
   go_loopg [42] L.length (λgk v42 wr=>∃(i:Nat)(z:Bl W3),gk=L.length - i/\i<=L.length/\v42= .int .i64 i/\wr=z.val/\Hid (∀l∈L.take i,l.length<=4000))
   case atStart=>exact⟨0,⟨W3,aC _ _⟩,rfl,aZ _,rfl,rfl,λl hl=>by simp at hl⟩
   case round=>
    obtain⟨i,z,eZ,hi,rfl,rfl,HT4⟩:=hrel;have iL:=ah eZ;clear eZ;by_cases hlt:i<L.length
    .have i0:(i:Int)<(L.length:Int):=by omega
     obtain⟨l,hl⟩:∃x,L[i]?=some x:=⟨_,aW hlt⟩;obtain⟨g,o,jB,hg,hcl⟩:=HN.out.form (by omega);simp only at jB;subst jB;obtain⟨t,hta,htc⟩:=hcl i l hl;have x0:=htc z.val z.prop;have hlx:=mH hta;have HLI:=ah hl;clear hcl htc hl hta;by_cases h4:4000<l.length
     .have q1:(4000:Int)<(l.length:Int):=by omega
      have HV:Hid (dD C fs u [] 3):=⟨ho,F,O,0,HJ1.out,.inr ⟨rfl,L,0,AB.out,.inr ⟨rfl,.inl ⟨rfl,rfl,l,bT HLI.out,h4⟩⟩⟩⟩;have uR:Hid (Below w.heap.size w z.val):=ay HB3.out z.prop;go_wp2;refine bodyPost_ret (v:=.tuple #[.slice none 0 0,.int .i64 3]) (by simp[results,Tryz.results14,go_sem]) rfl ⟨none,0,[],3,rfl,fJ _ _,uR.out,HV.out⟩
     .have q1:¬(4000:Int)<(l.length:Int):=by omega
      have Nl:Hid (∀l∈L.take (i+1),l.length<=4000):=λm hm=>by
       rw[bS HLI.out]at hm;rcases dJ.1 hm with h|h
       .exact HT4.out m h
       .rw[d_.1 h];omega
      go_wp2
      go_roundg (L.length - (i+1))
      case measure=>rw[iL.out];omega
      case rel=>exact⟨i+1,z,rfl,by omega,by go_num,rfl,Nl⟩
    .obtain rfl:i=L.length:=by omega
     have HGD:Hid (∀l∈L,Good C l):=λl hl=>AB.out.good l hl (by have h:=HT4.out;rw[gW]at h;exact h l hl);have H40:Hid (∀l∈L,l.length<=4000):=by have h:=HT4.out;rw[gW]at h;exact h
     have hcl:C.clauses.length<=400:=I_ AB.out.mem.1;have Bt:=ah (uj.out.below z.prop);have HZ4:=ah z.prop;clear HT4 iL hlt hi;generalize z.val=W4 at Bt HZ4⊢;clear z;obtain⟨ii,hii,hiz,his,hib⟩:=info_parts' (P:=Tryz.prog) (t:=3) (z:=some (.int .i64 0)) (s:=1) (b:=8) (by kernel_rfl);have hmk:=run_makeSlice (P:=Tryz.prog) (w:=W4) 22 3 ii _ Tryz.underlying22 hii hiz .i64 .i64 (C.clauses.length:Int) (C.clauses.length:Int) (by omega) (by omega) (by rw[his];simp;omega) (by rw[hib];omega) (by omega);simp only[xg,his]at hmk;have c4:=Bt.out.kZ.cell (i:=4) rfl;simp only at c4;go_upto_region 14 with(fail)
     obtain⟨vb,hvb⟩:∃b,b=W4.heap.size:=⟨_,rfl⟩;rw[<-hvb];generalize Mj:World.alloc _ _=W5;obtain⟨hb5,hh5⟩:=bx1' Mj;have HV5:Hid (Own W5 3 vb (aY (List.replicate C.clauses.length 0))):=by
      refine⟨[],?_⟩;rw[bV,IU,Array.toArray_toList,hvb];exact hh5
     have KW:=ah (Bt.out.below hb5);have HZ5:Hid (Below W3.heap.size W3 W5):=ay HZ4.out hb5;have HVB:Hid (W3.heap.size<=vb):=by show _<=_;rw[hvb];exact HZ4.out.size
     clear Mj hh5 hb5 hmk c4 hvb Bt HZ4 hii hiz his hib ii;have HCX:Hid (∀z:World,Below W3.heap.size W3 z->uV z w.heap.size ⟨⟨hA,hc⟩,⟨uA,uc⟩,⟨aA,ac⟩,⟨kA,kc⟩,⟨oA,oc⟩⟩ C):=λz hz=>uj.out.below hz;obtain⟨E,HE⟩:∃E,Hid (og C.clauses.length (L.map C.rG)=E):=⟨_,rfl⟩;have Vy:Hid (∀r∈L.map C.rG,r.length=C.clauses.length):=λr hr=>by
      obtain⟨l,hl,rfl⟩:=dF.1 hr;have hg:=HGD.out l hl;have h:=hg.ok l.length (bJ _);rw[gW]at h;unfold aB.rG;rw[dS];exact h.lm
     go_wp2
     go_loopg [56] L.length (λgk v56 wr=>∃(i:Nat),gk=L.length - i/\i<=L.length/\v56= .int .i64 i/\Hid (Below W3.heap.size W3 wr)/\Hid (Own wr 3 vb (aY (og C.clauses.length ((L.map C.rG).take i)))))
     case atStart=>exact⟨0,rfl,aZ _,rfl,HZ5,HV5⟩
     case round=>
      obtain⟨i,eZ,hi,rfl,HZ,HV⟩:=hrel;have iL:=ah eZ;clear eZ;by_cases hlt:i<L.length
      .have i0:(i:Int)<(L.length:Int):=by omega
       obtain⟨l,hl⟩:∃x,L[i]?=some x:=⟨_,aW hlt⟩;obtain⟨g,o,jB,hg,hcl'⟩:=HN.out.form (by omega);simp only at jB;subst jB;obtain⟨t,hta,htc⟩:=hcl' i l hl;have x0:=htc wr HZ.out;have hlx:=mH hta;have Vp:=ah (HGD.out l (bT hl));have apH:=H40.out l (bT hl);have HRI:Hid ((L.map C.rG)[i]?=some (C.rG l)):=by show _=_;rw[fM,hl];rfl
       obtain⟨c0,c1,c2,c3,c4,c5,c6⟩:=(HCX.out wr HZ.out).cells;simp only at c0 c1 c2 c3 c4 c5 c6;have hru:=TI ⟨⟨hA,hc⟩,⟨uA,uc⟩,⟨aA,ac⟩,⟨kA,kc⟩,⟨oA,oc⟩⟩ C t l wr (HCX.out wr HZ.out).con (hta.below (by omega) HZ.out);simp only[CV.val,CV.cells]at hru;have HRU:=ah hru;clear hcl' htc hta hl hru;go_wp2_with (go_at_call 15;refine HRU.out.mono ?_;rintro _ W6 ⟨A6,d6,R,er6,rfl,hb,hrun⟩;refine Hid.out ?_);refine ah ?_;rcases hrun with⟨rfl,_,rfl,hst⟩|⟨_,hng,_⟩
       case inr=>exact absurd Vp.out hng
       have HST:=ah hst;have HZ6:Hid (Below W3.heap.size W3 W6):=ay HZ.out hb;have TR:=ah (HV.out.below hb);have zW:Hid (vb<wr.heap.size):=HV.out.lt;have htl:=DV C l l.length;have hgo:=Vp.out.ok l.length (bJ _);rw[gW]at hgo;obtain⟨rb,ro,hR0,hrb,hrs⟩:=hst.form (by omega);simp only at hR0;subst hR0;obtain⟨⟨⟨WZ,W_⟩,⟨Xa,Xb⟩,⟨smA,Wu⟩⟩,⟨hs,hnew⟩,hsc⟩:=hrs l.length (C.DU l) (by rw[Vm (bJ _),gW]);have s3:W6.cell? ⟨rb,ro+l.length*4+3,none⟩=some (.slice smA (C.DU l).marks.length Wu):=hsc W6 (aC _ _) 3 (by omega);obtain⟨ms,hms⟩:∃ms,ms=(C.DU l).marks:=⟨_,rfl⟩;have hml:ms.length=C.clauses.length:=by rw[hms];exact hgo.lm
       have HRW:Hid (C.rG l=ms.map (λm=>jX m.status)):=by show _=_;rw[hms];rfl
       have AA:Hid (∀(k:Nat)(m:aD),ms[k]?=some m->∃mb mo,smA=some ⟨mb,mo,none⟩/\mb<W6.heap.size/\¬mb=vb/\∀j,j<5->W6.cell? ⟨mb,mo+k*5+j,none⟩=m.cells[j]?):=λk m hm=>by
        rw[hms]at hm;obtain⟨mb,mo,h1,h2,h3⟩:=hs.mark hm;have h4:=hnew.2.2 mb mo h1;exact⟨mb,mo,h1,h2,by have:=zW.out;omega,h3 k m hm W6 (aC _ _)⟩
       rw[<-hms]at s3;have htx:(C.trail l l.length).length<=9223372036854775807:=by omega
       have hi1:((C.trail l l.length).length:Int) - 1=(l.length:Int):=by omega
       have hi2:(l.length:Int)<((C.trail l l.length).length:Int):=by omega
       have hmx:ms.length<=9223372036854775807:=by omega
       obtain⟨V,HVd⟩:∃V,Hid (V=og C.clauses.length ((L.map C.rG).take i)):=⟨_,rfl⟩;rw[<-HVd.out]at TR;have Wi:Hid (V.length=C.clauses.length):=by show _=_;rw[HVd.out];exact D9 (λr hr=>Vy.out r (List.mem_of_mem_take hr))
       obtain⟨N,HNd⟩:∃N,Hid (N=I9 i V (C.rG l)):=⟨_,rfl⟩;have HNS:Hid (og C.clauses.length ((L.map C.rG).take (i+1))=N):=by show _=_;rw[Sm HRI.out,HNd.out,HVd.out]
       have TF:Hid (N.length=V.length):=by
        show _=_;have h:=Vy.out (C.rG l) (bT HRI.out);rw[HNd.out];unfold I9;by_cases h0:i=0
        .rw[if_pos h0,h,Wi.out]
        .rw[if_neg h0,Le Wi.out h,Wi.out]
       have HN0:Hid (Own W6 3 vb (aY (N.take 0++V.drop 0))):=by rw[bX,pO,bY];exact TR.out
       clear hst hb HRU HZ HV TR c0 c1 c2 c3 c4 c5 c6 x0 hrs hs hnew hsc hms htl hgo;go_wp2
       go_loopg [78] C.clauses.length (λgk v78 wr=>∃(k:Nat),gk=C.clauses.length - k/\k<=C.clauses.length/\v78= .int .i64 k/\Hid (aH (λb=>b=vb) W6 wr)/\Hid (Own wr 3 vb (aY (N.take k++V.drop k))))
       case atStart=>exact⟨0,rfl,aZ _,rfl,aH.refl _ _,HN0⟩
       case round=>
        obtain⟨k,eZ,hk,rfl,HU,HW⟩:=hrel;have XY:=ah eZ;clear eZ HN0;by_cases hkl:k<C.clauses.length
        .have k0:(k:Int)<(ms.length:Int):=by omega
         obtain⟨⟨mst,mle,mgo,mbe,mpa⟩,hm⟩:∃m,ms[k]?=some m:=⟨ms[k]'(by omega),aW _⟩;obtain⟨mb,mo,hMA,hmb,hmv,hmc⟩:=AA.out k _ hm;subst hMA;have hx:∀j,j<5->wr.cell? ⟨mb,mo+k*5+j,none⟩=(aD.cells ⟨mst,mle,mgo,mbe,mpa⟩)[j]?:=λj hj=>(bO HU.out hmb hmv).trans (hmc j hj);have x0:=hx 0 (by omega);have x1:=hx 1 (by omega);have x2:=hx 2 (by omega);have x3:=hx 3 (by omega);have x4:=hx 4 (by omega);simp only[aD.cells,kH,Aa,List.getElem?_cons_succ]at x0 x1 x2 x3 x4;obtain⟨a,ha⟩:∃a,V[k]?=some a:=⟨V[k]'(by rw[Wi.out];omega),aW _⟩;have HRK:Hid ((C.rG l)[k]?=some (jX mst)):=by show _=_;rw[HRW.out,fM,hm];rfl
         have HNK:Hid (N[k]?=some (if i=0 then jX mst else if a=jX mst then a else 0)):=by show _=_;rw[HNd.out];exact Wh ha HRK.out
         have HVK:Hid ((N.take k++V.drop k)[k]?=some a):=(aep TF.out (by rw[Wi.out];omega)).trans ha;have Yx:Hid (∀x,N[k]?=some x->(N.take k++V.drop k).set k x=N.take (k+1)++V.drop (k+1)):=λx hx=>aeo TF.out hx;have hkv:(k:Int)<(C.clauses.length:Int):=by omega
         clear hx hmc hm ha;go_upto_region 23 with(fail)
         generalize hWa:World.alloc _ _=Wa;obtain⟨hba,hxa⟩:=bx1' hWa;have d0:Wa.cell? ⟨wr.heap.size,0,none⟩=some (.int .i64 mst):=(aL Wa _ 0 _ _ _ hxa).trans rfl;have Nc:Hid (aH (λb=>b=vb) W6 Wa):=mD HU.out hba;have Qm:=ah (HW.out.below hba);have Zu:=ah (λW:World=>ML mst W);clear hWa hba hxa HU HW x0 x1 x2 x3 x4;go_wp2_with (go_at_call 37;refine(Zu.out _).mono ?_;rintro e z ⟨rfl,hz⟩;refine Hid.out ?_);refine ah ?_;have WL:Hid (aH (λb=>b=vb) W6 z):=mD Nc.out hz;have HWz:=ah (Qm.out.below hz);have y0:z.cell? ⟨vb,k,none⟩=some (.int .i64 a):=HWz.out.cell (fI HVK.out);have y1:=HWz.out.frozen k;have ahH:Hid (∀x,N[k]?=some x->Own (z.setCell ⟨vb,k,none⟩ (.int .i64 x)) 3 vb (aY (N.take (k+1)++V.drop (k+1)))):=λx hx=>by
          have h:=HWz.out.set (i:=k) (by rw[Pb];exact(bC.1 HVK.out).1) (.int .i64 x);rw[ints_set,Yx.out x hx]at h;exact h
         have HUS:Hid (∀x,aH (λb=>b=vb) W6 (z.setCell ⟨vb,k,none⟩ x)):=λx=>WL.out.setCell (p:=⟨vb,k,none⟩) (.inl rfl) x;generalize jX mst=mt at HNK⊢;clear hz Nc Qm Zu d0 HRK;by_cases h0:i=0
         .have q0:((i:Int)==0)=true:=by simp[h0]
          have BA:=HNK.out;rw[if_pos h0]at BA;have HW2:=ah (ahH.out _ BA);have vZ:=ah (HUS.out (.int .i64 mt));clear h0 BA;go_wp2
          go_roundg (C.clauses.length - (k+1))
          case measure=>rw[XY.out];omega
          case rel=>exact⟨k+1,rfl,by omega,by go_num,vZ,HW2⟩
         .have q0:((i:Int)==0)=false:=by simp[h0]
          have BA:=HNK.out;rw[if_neg h0]at BA;by_cases hat:a=mt
          .rw[if_pos hat]at BA
           have q1:(a !=mt)=false:=by simp[hat]
           have HW2:Hid (Own z 3 vb (aY (N.take (k+1)++V.drop (k+1)))):=by
            rw[<-Yx.out a BA,aaR HVK.out];exact HWz
           clear h0 BA hat;go_wp2
           go_roundg (C.clauses.length - (k+1))
           case measure=>rw[XY.out];omega
           case rel=>exact⟨k+1,rfl,by omega,by go_num,WL,HW2⟩
          .rw[if_neg hat]at BA
           have q1:(a !=mt)=true:=by simp[hat]
           have HW2:=ah (ahH.out _ BA);have vZ:=ah (HUS.out (.int .i64 0));clear h0 BA hat;go_wp2
           go_roundg (C.clauses.length - (k+1))
           case measure=>rw[XY.out];omega
           case rel=>exact⟨k+1,rfl,by omega,by go_num,vZ,HW2⟩
        .obtain rfl:k=C.clauses.length:=by omega
         have HWN:Hid (Own wr 3 vb (aY (og C.clauses.length ((L.map C.rG).take (i+1))))):=by
          have h:=HW.out;rw[uY (by rw[TF.out,Wi.out];exact bJ _),List.drop_eq_nil_of_le (by rw[Wi.out];exact bJ _),bV]at h;rw[HNS.out];exact h
         have WK:Hid (Below W3.heap.size W3 wr):=HZ6.out.trans (HU.out.below HZ6.out.size (λb hb=>by have:=HVB.out;omega));go_wp2
         go_roundg (L.length - (i+1))
         case measure=>rw[iL.out];omega
         case rel=>exact⟨i+1,rfl,by omega,by go_num,WK,HWN⟩
      .obtain rfl:i=L.length:=by omega
       have hE:og C.clauses.length ((L.map C.rG).take L.length)=E:=by rw[uY (by simp)];exact HE.out
       rw[hE]at HV;have Wi:Hid (E.length=C.clauses.length):=by show _=_;rw[<-HE.out];exact D9 Vy.out
       have FR:Hid (dD C fs u E 0):=⟨ho,F,O,0,HJ1.out,.inr ⟨rfl,L,0,AB.out,.inr ⟨rfl,.inr ⟨HGD.out,rfl,HE.out.symm⟩⟩⟩⟩;have HAT:Hid (At wr 1 (some ⟨vb,0,none⟩) E.length C.clauses.length (aY E)):=HV.out.BP (n:=E.length) (by simp[aY]) (zO E) (by rw[Wi.out];exact bJ _) (by unfold maxLen;omega);have BI:Hid (Below w.heap.size w wr):=ay HB3.out HZ.out;clear hE;go_wp2;refine bodyPost_ret (v:=.tuple #[.slice (some ⟨vb,0,none⟩) C.clauses.length C.clauses.length,.int .i64 0]) (by simp[results,Tryz.results14,go_sem]) rfl ⟨some ⟨vb,0,none⟩,C.clauses.length,E,0,by rw[Wi.out],HAT.out,BI.out,FR.out⟩
end
section
open Go.RowKit Go.Shelf
theorem YW(v:CV)(C:aB)(w:World)(hC:cK w v C):Calls Tryz.prog 30 #[v.val C] w (YH w):=by
 obtain⟨⟨g_,h_⟩,⟨ig,iq⟩,⟨jk,gD⟩,⟨iM,gB⟩,⟨gT,gU⟩⟩:=v;have hx1:C.aj.length<=9223372036854775807:=by have h1:=hC.aj.2.2.1;have h2:=hC.aj.2.2.2;unfold maxLen at h2;omega
 have hx2:C.units.length<=9223372036854775807:=by have h1:=hC.units.2.2.1;have h2:=hC.units.2.2.2;unfold maxLen at h2;omega
 have hx3:C.acts.length<=9223372036854775807:=by have h1:=hC.acts.2.2.1;have h2:=hC.acts.2.2.2;unfold maxLen at h2;omega
 have hx6:C.off.length<=9223372036854775807:=by have h1:=hC.off.2.2.1;have h2:=hC.off.2.2.2;unfold maxLen at h2;omega
 have hx4:C.clauses.length<=9223372036854775807:=by
  obtain⟨ss,g1,g2,g3⟩:=hC.clauses;have h1:=g2.2.2.1;have h2:=g2.2.2.2;unfold maxLen at h2;omega
 have HC:=ah hC;clear hC;simp only[CV.val,CV.cells];go_enter Tryz.func30,Tryz.ntmps30;go_upto_region 1 with(fail)
 generalize hW0:World.alloc _ _=W0;obtain⟨HB,hh0⟩:=Go.Proofs.YtpmdedcnbockhaaGreatDoor.bx1 hW0;clear hW0;obtain⟨j5,j6,kE,lg,lq,l7,ny⟩:=Jt hh0;clear hh0;change Code.wp _ _ _ _ (Bl.val (⟨W0,aC _ _⟩:Bl W0));generalize(⟨W0,aC _ _⟩:Bl W0)=s0;have HS:Hid (∀z:Bl W0,Calls Tryz.prog 55 #[.agg #[.int .i64 C.aJ,.slice g_ C.aj.length h_,.slice ig C.units.length iq,.slice jk C.acts.length gD,.slice iM C.clauses.length gB,.int .i64 C.days,.slice gT C.off.length gU],.int .i64 6] z.val (YH z.val)):=λz=>VR (⟨⟨g_,h_⟩,⟨ig,iq⟩,⟨jk,gD⟩,⟨iM,gB⟩,⟨gT,gU⟩⟩:CV) C 6 z.val (HC.out.below (ay HB.out z.prop));go_wp2_with (go_at_call 55;refine(HS.out _).mono ?_;rintro e z ⟨x,rfl,hz⟩;obtain⟨z,rfl⟩:=Bl.on hz;clear hz;refine Hid.out ?_);refine ah ?_;cases x with
 |false=>
  go_wp2;go_ret;exact⟨_,rfl,ay HB.out (Bl.prop _)⟩
 |true=>
  cases q1:decide ((C.acts.length:Int)<=8)with
  |false=>
   go_wp2;go_ret;exact⟨_,rfl,ay HB.out (Bl.prop _)⟩
  |true=>
   go_wp2;go_ret;exact⟨_,rfl,ay HB.out (Bl.prop _)⟩
def OkB(p l:Nat)(w:World)(e:Ending)(w':World):Prop:=∃x:Bool,e= .returned (.bool x)/\(x=true->p<=14/\l<=30)/\Below w.heap.size w w'
theorem Sn(v:CV)(C:aB)(pA:Option Addr)(p pc:Nat)(lA:Option Addr)(l lc:Nat)(w:World)(hC:cK w v C)(hp:p<=9223372036854775807)(hl:l<=9223372036854775807):Calls Tryz.prog 10 #[v.val C,.slice pA p pc,.slice lA l lc] w (OkB p l w):=by
 obtain⟨⟨hA,hc⟩,⟨uA,uc⟩,⟨aA,ac⟩,⟨kA,kc⟩,⟨oA,oc⟩⟩:=v;have HC:=ah hC;clear hC;simp only[CV.val,CV.cells];go_enter Tryz.func10,Tryz.ntmps10;go_upto_region 1 with(fail)
 generalize hW0:World.alloc _ _=W0;obtain⟨HB0,h0⟩:=bx1 hW0;have HX0:Hid (uV W0 w.heap.size ⟨⟨hA,hc⟩,⟨uA,uc⟩,⟨aA,ac⟩,⟨kA,kc⟩,⟨oA,oc⟩⟩ C):=⟨HC.out.below HB0.out,⟨[],by rw[bV];exact h0⟩⟩;clear hW0 h0 HC;obtain⟨c0,c1,c2,c3,c4,c5,c6⟩:=HX0.out.cells;simp only at c0 c1 c2 c3 c4 c5 c6;have ht:=YW ⟨⟨hA,hc⟩,⟨uA,uc⟩,⟨aA,ac⟩,⟨kA,kc⟩,⟨oA,oc⟩⟩ C W0 HX0.out.con;simp only[CV.val,CV.cells]at ht;have HTM:=ah ht;clear ht;go_wp2_with (go_at_call 30;refine HTM.out.mono ?_;rintro _ W1 ⟨x,rfl,hb⟩;refine Hid.out ?_);refine ah ?_;have HB1:Hid (Below w.heap.size w W1):=ay HB0.out hb;clear hb HTM HX0 HB0 c0 c1 c2 c3 c4 c5 c6;cases x with
 |false=>
  go_wp2;go_ret;exact⟨_,rfl,(λh=>by cases h),HB1.out⟩
 |true=>
  by_cases q1:p<=14
  .have r1:(p:Int)<=14:=by omega
   by_cases q2:l<=30
   .have r2:(l:Int)<=30:=by omega
    go_wp2;go_ret;exact⟨_,rfl,λ_=>⟨q1,q2⟩,HB1.out⟩
   .have r2:¬(l:Int)<=30:=by omega
    clear q2;go_wp2;go_ret;exact⟨_,rfl,(λh=>by cases h),HB1.out⟩
  .have r1:¬(p:Int)<=14:=by omega
   clear q1;go_wp2;go_ret;exact⟨_,rfl,(λh=>by cases h),HB1.out⟩
end
open Go.RowKit Go.Shelf
theorem Sq{C:aB}{s:ak}{x:Int}{j:Nat}{m:aD}(h:s.marks[j]?=some m)(he:m.status=3\/m.status=4\/m.status=5):(C.next s x).marks[j]?=some m:=by
 unfold aB.next;cases (x== -1)with
 |true=>exact Ri h he
 |false=>
  rw[cond_false];split
  .exact U3 h he
  .exact h
theorem Ja{C:aB}{j:Nat}{m:aD}(he:m.status=3\/m.status=4\/m.status=5):∀(t:List Int)(s:ak),s.marks[j]?=some m->(t.foldl (λs x=>C.next s x) s).marks[j]?=some m
 |[],_,h=>h
 |x::t,s,h=>Ja he t (C.next s x) (Sq h he)
theorem Jb:∀(l:List Int)(n:Int),∃t,l=mO l n++t
 |[],_=>⟨[],rfl⟩
 |a::l,n=>by
  unfold mO;split
  .obtain⟨t,ht⟩:=Jb l (if a= -1 then n - 1 else n)
   exact⟨t,by rw[tH,<-ht]⟩
  .exact⟨a::l,rfl⟩
theorem MW{s:Int}(h:jX s=1\/jX s=3):s=3\/s=4\/s=5:=by
 unfold jX at h;by_cases h3:s=3
 .exact .inl h3
 .by_cases h5:s=5
  .exact .inr (.inr h5)
  .by_cases h4:s=4
   .exact .inr (.inl h4)
   .have e3:(s==3)=false:=by simpa using h3
    have e5:(s==5)=false:=by simpa using h5
    have e4:(s==4)=false:=by simpa using h4
    rw[e3,e5,e4]at h;rcases h with h|h<;>cases h
theorem Sr{C:aB}{l t:List Int}{i:Nat}{x:Int}(h:(C.rG l)[i]?=some x)(hx:x=1\/x=3):(C.rG (l++t))[i]?=some x:=by
 unfold aB.rG at h⊢;rw[fM]at h⊢;cases hm:(C.DU l).marks[i]? with
 |none=>rw[hm]at h;cases h
 |some m=>
  rw[hm]at h;have hv:jX m.status=x:=by simpa using h
  have he:m.status=3\/m.status=4\/m.status=5:=MW (by rw[hv];exact hx);have h2:(C.DU (l++t)).marks[i]?=some m:=by
   unfold aB.DU;rw[tJ];exact Ja he t _ hm
  rw[h2];simpa using hv
theorem YX{V r:List Int}{i:Nat}{x:Int}(hx:x≠0)(h:(vW V r)[i]?=some x):V[i]?=some x/\r[i]?=some x:=by
 unfold vW at h;rw[List.getElem?_zipWith]at h;cases ha:V[i]? with
 |none=>rw[ha]at h;cases h
 |some a=>
  cases hb:r[i]? with
  |none=>rw[ha,hb]at h;cases h
  |some b=>
   rw[ha,hb]at h;have h2:(if a=b then a else 0)=x:=by simpa using h
   by_cases e:a=b
   .rw[if_pos e]at h2
    subst e;subst h2;exact⟨rfl,rfl⟩
   .rw[if_neg e]at h2
    exact absurd h2.symm hx
theorem Lf{i:Nat}{x:Int}(hx:x≠0):∀(R:List (List Int))(a:List Int),(R.foldl vW a)[i]?=some x->a[i]?=some x/\∀r∈R,r[i]?=some x
 |[],_,h=>⟨h,λ_ hr=>by cases hr⟩
 |b::R,a,h=>by
  obtain⟨h1,h2⟩:=Lf hx R (vW a b) h;obtain⟨h3,h4⟩:=YX hx h1;refine⟨h3,λr hr=>?_⟩;rcases dI.1 hr with rfl|hr
  .exact h4
  .exact h2 r hr
theorem D_{n i:Nat}{x:Int}{R:List (List Int)}(hx:x≠0)(h:(og n R)[i]?=some x):R≠[]/\∀r∈R,r[i]?=some x:=by
 cases R with
 |nil=>
  exfalso;simp only[og]at h;have:=bT h;exact hx (List.mem_replicate.1 this).2
 |cons a R=>
  obtain⟨h1,h2⟩:=Lf hx R a h;refine⟨by simp,λr hr=>?_⟩;rcases dI.1 hr with rfl|hr
  .exact h1
  .exact h2 r hr
theorem Jc{i:Nat}{x:Int}:∀(R:List (List Int))(a:List Int),a[i]?=some x->(∀r∈R,r[i]?=some x)->(R.foldl vW a)[i]?=some x
 |[],_,h,_=>h
 |b::R,a,h,hr=>by
  refine Jc R (vW a b) ?_ (λr h2=>hr r (jf _ h2));unfold vW;rw[List.getElem?_zipWith,h,hr b List.mem_cons_self];simp
theorem Lg{n i:Nat}{x:Int}{R:List (List Int)}(hR:R≠[])(h:∀r∈R,r[i]?=some x):(og n R)[i]?=some x:=by
 cases R with
 |nil=>exact absurd rfl hR
 |cons a R=>exact Jc R a (h a List.mem_cons_self) (λr hr=>h r (jf _ hr))
theorem wT{C:aB}{fs:List aM}{ho:Int}{F:List au}{O:List aP}(h:mK C fs ho F O 0):um C fs/\jo (aG fs) (aO fs) F O/\∃f0,fs[0]?=some f0/\ho=f0.house:=by
 rcases h with⟨h,_⟩|⟨ha,f0,h0,⟨_,h1,hf⟩|⟨h,_⟩⟩
 .cases h
 .exact⟨ha,hf,f0,h0,h1⟩
 .cases h
theorem dD.good{C:aB}{fs:List aM}{u:Int}{V:List Int}(h:dD C fs u V 0):
 um C fs/\∃(f0:aM)(F:List au)(O:List aP)(L:List (List Int)),fs[0]?=some f0/\jo (aG fs) (aO fs) F O/\lS C ⟨f0.house,F,O⟩ u L 0/\(∀l∈L,Good C l)/\V=og C.clauses.length (L.map C.rG):=by
 obtain⟨ho,F,O,e1,hj,⟨h1,h2,_⟩|⟨rfl,L,e2,hc,⟨h1,h2,_⟩|⟨rfl,⟨_,h2,_⟩|⟨hg,_,hV⟩⟩⟩⟩:=h
 .exact absurd h2.symm h1
 .exact absurd h2.symm h1
 .cases h2
 .obtain⟨ha,hf,f0,h0,rfl⟩:=wT hj
  exact⟨ha,f0,F,O,L,h0,hf,hc,hg,hV⟩
theorem Good.row{C:aB}{l:List Int}(h:Good C l):(C.rG l).length=C.clauses.length:=by
 have h1:=(h.ok l.length (bJ _)).lm;rw[gW]at h1;unfold aB.rG;rw[dS];exact h1
theorem vX{C:aB}{L:List (List Int)}(hg:∀l∈L,Good C l):(og C.clauses.length (L.map C.rG)).length=C.clauses.length:=
 D9 (λr hr=>by
  obtain⟨l,hl,rfl⟩:=dF.1 hr;exact(hg l hl).row)
theorem PS{C:aB}{fs:List aM}{e l:Int}{V1 V2:List Int}(h1:dD C fs e V1 0)(h2:dD C fs l V2 0)(hel:e<=l):
 V1.length=V2.length/\∀(i:Nat)(x:Int),V1[i]?=some x->(x=1\/x=3)->V2[i]?=some x:=by
 obtain⟨ha,f0,F,O,L1,h0,hf,hc1,hg1,rfl⟩:=h1.good;obtain⟨_,f0',F',O',L2,h0',hf',hc2,hg2,rfl⟩:=h2.good;obtain⟨rfl,rfl⟩:=hf.unique hf' (lQ ha.2);obtain rfl:f0=f0':=Option.some.inj (h0.symm.trans h0');obtain⟨b1,b2⟩:=MQ hc1 hc2 hel;refine⟨by rw[vX hg1,vX hg2],λi x hx h13=>?_⟩;obtain⟨hn,hr⟩:=D_ (by omega) hx;refine Lg (λhL=>hn ?_) (λr hr2=>?_)
 .rw[List.map_eq_nil_iff]at hL⊢
  subst hL;refine List.eq_nil_iff_forall_not_mem.2 (λy hy=>?_);obtain⟨z,hz,_⟩:=b2 y hy;cases hz
 .obtain⟨t,ht,rfl⟩:=dF.1 hr2
  obtain⟨q,hq⟩:=Jb t e;have h3:=hr _ (dF.2 ⟨_,b1 t ht,rfl⟩);rw[hq];exact Sr h3 h13
theorem YZ{F T:List au}{g:Int->Int}(hr:T.map (·.ref)=F.map (·.ref))(hT:∀t∈T,t.act=g t.ref)(hF:∀t∈F,t.act=g t.ref):T.map (λx=>(x.ref,x.act))=F.map (λx=>(x.ref,x.act)):=by
 have e:∀{L:List au},(∀t∈L,t.act=g t.ref)->L.map (λx=>(x.ref,x.act))=(L.map (·.ref)).map (λr=>(r,g r)):=λ{L} h=>by
  rw[ow];exact List.map_congr_left (λx hx=>by simp[h x hx])
 rw[e hT,e hF,hr]
theorem Kl{L A T TA:List au}{O OA OO OAA:List aP}(h:jo L O T OO)(h1:jo A OA TA OAA)(hd:aT A)(hA:∀x∈A,x∈L)(hin:∀x∈L,∃y∈A,y.ref=x.ref):T.map (λx=>(x.ref,x.act))=TA.map (λx=>(x.ref,x.act)):=by
 have ht:=h1.tight;rw[iH hd]at ht;rw[oV h.tight,oV ht];refine YZ (g:=iD A) ?_ (λz hz=>?_) (λx hx=>(vG hd.zF hx).symm)
 .rw[q8]
  exact(pR (L:=L) hd (λr=>by
   rw[dF];constructor
   .rintro⟨x,hx,rfl⟩;exact⟨x,hA x hx,rfl⟩
   .rintro⟨x,hx,rfl⟩;obtain⟨y,hy,e⟩:=hin x hx;exact⟨y,hy,e⟩)).symm
 .obtain⟨x,hx,e,ea⟩:=(bU hz).act
  obtain⟨y,hy,e2⟩:=hin x hx;have e3:=h.same x hx y (hA y hy) e2.symm;rw[<-ea,e3,<-e,<-e2];exact(vG hd.zF hy).symm
theorem Ea{C:aB}{ho u:Int}{F L:List au}{O LO:List aP}{R:List (List Int)}(hf:jo L LO F O)(h:lS C ⟨ho,F,O⟩ u R 0):dU C ⟨ho,F,O⟩=true/\∀x,x∈R↔∃day,Day F O u day/\x=bW F (gK F day) u:=by
 obtain⟨hok,_,_,T,OO,hf2,hm⟩:=h.mem;obtain⟨rfl,rfl⟩:=hf2.unique hf.again (jv hok);exact⟨hok,hm⟩
theorem rQ(f:aM):aG [f]=f.facts:=by simp[aG]
theorem sQ(f:aM):aO [f]=f.orders:=by simp[aO]
theorem Jd{C:aB}{fs:List aM}{f0:aM}{u:Int}{V1 V2:List Int}(h0:fs[0]?=some f0)(hin:∀f∈fs,∀x∈f.facts,∃y∈f0.facts,y.ref=x.ref)(h1:dD C [f0] u V1 0)(h2:dD C fs u V2 0):V1.length=C.clauses.length/\dH V1 V2:=by
 obtain⟨ha1,f1,TA,OAA,L1,e1,hfA,hc1,hg1,rfl⟩:=h1.good;obtain⟨ha,f2,T,OO,L2,e2,hf,hc2,hg2,rfl⟩:=h2.good;obtain rfl:f0=f1:=by simpa using e1
 rw[rQ,sQ]at hfA;have hm0:=bT h0;have hok0:=ha.2 f0 hm0;have hA:∀x∈f0.facts,x∈aG fs:=λx hx=>mU.2 ⟨f0,hm0,hx⟩;have hO:∀b∈f0.orders,b∈aO fs:=λx hx=>mU.2 ⟨f0,hm0,hx⟩;have hk0:=jv hok0;have hd0:=eB (gQ hok0);have hp:=Kl hf hfA hd0 hA (λx hx=>by
  obtain⟨f,hfm,hxf⟩:=mU.1 hx;exact hin f hfm x hxf)
 have hr:=D8 hp;obtain⟨_,hm1⟩:=Ea hfA hc1;obtain⟨_,hm2⟩:=Ea hf hc2;have hsub:∀x∈L2,x∈L1:=λx hx=>by
  obtain⟨day,V7,rfl⟩:=(hm2 x).1 hx;rw[hm1];refine⟨day,V7.narrow hfA hf hA hO hk0,?_⟩;have e:∀L:List au,gK L day=(L.map (·.ref)).map day:=λL=>by unfold gK;rw[ow];rfl
  refine ru hp (by rw[e,e,hr]) (λd _ i=>by rw[e,e,hr])
 have hne:L2≠[]:=λhn=>by
  obtain⟨day,V7⟩:=Day.some u hf.tight (dZ _) ((lQ ha.2).known hf.ord) hf.le;have:=(hm2 _).2 ⟨day,V7,rfl⟩;rw[hn]at this;cases this
 refine⟨vX hg1,by rw[vX hg1,vX hg2],λk x hx=>?_⟩;by_cases h:x=0
 .exact .inl h
 .obtain⟨_,hall⟩:=D_ h hx
  refine .inr (Lg (λhn=>hne (List.map_eq_nil_iff.1 hn)) (λr hr2=>?_));obtain⟨t,ht,rfl⟩:=dF.1 hr2;exact hall _ (dF.2 ⟨t,hsub t ht,rfl⟩)
theorem MX{C:aB}{fs:List aM}{f0:aM}{u:Int}{V1 V2:List Int}{er:Int}(h0:fs[0]?=some f0)(h1:dD C [f0] u V1 er)(h2:dD C fs u V2 0):er≠23:=by
 obtain⟨ha,f2,T,OO,L2,e2,hf,hc2,hg2,_⟩:=h2.good;have hm0:=bT h0;have hok0:=ha.2 f0 hm0;have hA:∀x∈f0.facts,x∈aG fs:=λx hx=>mU.2 ⟨f0,hm0,hx⟩;have hO:∀b∈f0.orders,b∈aO fs:=λx hx=>mU.2 ⟨f0,hm0,hx⟩;rintro rfl;obtain⟨ho,F,O,e1,hj,h⟩:=h1;have hj0:e1=23->False:=by
  rintro rfl;rcases hj with⟨h,_⟩|⟨_,f1,hf1,⟨h,_⟩|⟨_,_,_,_,hev⟩⟩
  .cases h
  .cases h
  .rw[rQ,sQ]at hev
   exact hev.more hf hA hO (jv hok0)
 rcases h with⟨_,h2,_⟩|⟨rfl,L,e3,hc,⟨_,h2,_⟩|⟨_,⟨_,h2,_⟩|⟨_,h2,_⟩⟩⟩
 .exact hj0 h2.symm
 .subst h2
  obtain⟨_,hfA,_⟩:=wT hj;rcases hc with⟨h,_⟩|⟨hok,_,_,⟨_,_,h⟩|⟨_,_,_,_,_,⟨h,_⟩|⟨h,_⟩⟩⟩
  .cases h
  .exact hfA.again.zD (jv hok) h
  .cases h
  .cases h
 .cases h2
 .cases h2
theorem MZ{C:aB}{f:aM}{D:List Int}(hok:dU C f=true)(hm:VZ f D){T:List au}{OO:List aP}(hf:jo f.facts f.orders T OO)(u:Int):∃day,Day T OO u day/\bW f.facts D u=bW T (gK T day) u:=by
 have hd:=eB (gQ hok);have hmay:=hm.may hd;have hT:May T OO (CU f.facts D):=hmay.tight hf.ord hf.tight;have ht:=hf.tight;rw[iH hd]at ht;refine⟨_,hT.day u,?_⟩;have e1:bW f.facts D u=bW T D u:=ru (oV ht).symm rfl (λ_ _ _=>Iff.rfl);rw[e1];have e2:=CW (T:=T) hd hm.1 (D8 (oV ht));rw[<-e2];exact(zQ (λt _=>by rw[e2];omega)).symm
theorem Je{C:aB}{f:aM}{D:List Int}{u:Int}{V:List Int}{er:Int}(hok:dU C f=true)(hm:VZ f D)(h1:f.facts.length<=14)(h2:f.orders.length<=14)(h:dD C [f] u V er):
 (er≠0->er=3\/er=1/\(u<0\/C.days<u))/\(er=0->Good C (bW f.facts D u)/\V.length=C.clauses.length/\∀(i:Nat)(x:Int),V[i]?=some x->x=0\/(C.rG (bW f.facts D u))[i]?=some x):=by
 refine⟨λhne=>?_,?_⟩
 .obtain⟨ho,F,O,e1,hj,h⟩:=h
  obtain rfl:=(I6 hok hm).1 hj;obtain⟨ha,hf,f0,h0,rfl⟩:=wT hj;obtain rfl:f=f0:=by simpa using h0
  have hg:dU C ⟨f.house,F,O⟩=true:=PI ha h0 hf (by have h3:=vT hf.tight;have h4:=uh (aG [f]);have h5:=wO (aG [f]);rw[rQ]at*;omega) (by have:=Bg hf.ord;rw[sQ]at this;omega);rcases h with⟨h,_⟩|⟨_,L,e2,hc,⟨_,rfl,_⟩|⟨_,⟨_,rfl,_⟩|⟨_,rfl,_⟩⟩⟩
  .exact absurd rfl h
  .rcases hc with⟨rfl,_,hc⟩|⟨hok2,_,_,⟨_,_,hev⟩|⟨_,_,_,_,_,⟨rfl,_⟩|⟨rfl,_⟩⟩⟩
   .refine .inr ⟨rfl,?_⟩
    rcases Int.lt_or_le u 0 with h1|h1
    .exact .inl h1
    .rcases Int.lt_or_le C.days u with h2|h2
     .exact .inr h2
     .exact absurd ⟨hg,h1,h2⟩ hc
   .exact absurd hev (hf.again.zD (jv hok2))
   .exact .inl rfl
   .exact absurd rfl hne
  .exact .inl rfl
  .exact absurd rfl hne
 .rintro rfl
  obtain⟨ha,f0,F,O,L,h0,hf,hc,hg,rfl⟩:=h.good;obtain rfl:f=f0:=by simpa using h0
  rw[rQ,sQ]at hf;obtain⟨_,hmem⟩:=Ea hf hc;have hin:bW f.facts D u∈L:=by
   obtain⟨day,V7,e⟩:=MZ hok hm hf u;exact(hmem _).2 ⟨day,V7,e⟩
  refine⟨hg _ hin,vX hg,λi x hx=>?_⟩;by_cases h:x=0
  .exact .inl h
  .exact .inr ((D_ h hx).2 _ (dF.2 ⟨_,hin,rfl⟩))
theorem dH.refl(l:List Int):dH l l:=⟨rfl,λ_ _ h=>.inr h⟩
theorem dH.trans{a b d:List Int}(h:dH a b)(h':dH b d):dH a d:=
 ⟨h.1.trans h'.1,λk x hx=>by
  rcases h.2 k x hx with h1|h1
  .exact .inl h1
  .exact h'.2 k x h1⟩
theorem dH.akY{a b:List Int}(h:dH a b)(hf:∀x∈a,x≠0):a=b:=by
 refine kM (λk=>?_);cases ha:a[k]? with
 |none=>
  rw[List.getElem?_eq_none_iff]at ha;rw[eq_comm,List.getElem?_eq_none_iff,<-h.1];exact ha
 |some x=>
  rcases h.2 k x ha with h1|h1
  .exact absurd h1 (hf x (bT ha))
  .exact h1.symm
theorem dH.anti{a b:List Int}(h:dH a b)(h':dH b a):a=b:=by
 refine kM (λk=>?_);cases ha:a[k]? with
 |none=>
  rw[List.getElem?_eq_none_iff]at ha;rw[eq_comm,List.getElem?_eq_none_iff,<-h.1];exact ha
 |some x=>
  rcases h.2 k x ha with h1|h1
  .subst h1
   have hlt:k<b.length:=by
    have:=(bC.1 ha).1;rw[<-h.1];exact this
   have hb:=aW hlt;rcases h'.2 k _ hb with h2|h2
   .rw[h2]at hb;exact hb.symm
   .rw[ha]at h2
    rw[hb,<-h2]
  .exact h1.symm
theorem dH.free{a b:List Int}(hf:∀x∈a,x=0):dH a b↔a.length=b.length:=
 ⟨λh=>h.1,λh=>⟨h,λ_ x hx=>.inl (hf x (bT hx))⟩⟩
end Go.Proofs.YtpmdedcnbockhaaGreatDoor

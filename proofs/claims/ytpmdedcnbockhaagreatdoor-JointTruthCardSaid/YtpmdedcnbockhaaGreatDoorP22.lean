/-
  CsK; CsL; CsS
-/
import Derived.Test.YtpmdedcnbockhaaGreatDoorP12
import Derived.Test.YtpmdedcnbockhaaGreatDoorP13
set_option maxRecDepth 100000
set_option maxHeartbeats 8000000
namespace Go.Proofs
open Go.RowKit Go.Maps Go.Sort Go.Shelf
theorem Tryz.sortsItI(m:Nat):AnyZI.SortsIn Tryz.prog Tryz.sortedItI_ren Fence.wide m:=
 ⟨λblk off cap ss W hH hblk hsz=>callsIn_wide.2 (AnyM.slices_Sort_int Tryz.sortItI blk off cap ss W hH hblk hsz),
  λp cap W=>callsIn_wide.2 (AnyM.slices_Sort_int_none Tryz.sortItI p cap W)⟩
theorem Tryz.maps_Keys_itF(mb:Option Nat)(W:World):CallsIn Fence.wide 5 Tryz.prog 94 #[.map mb] W λe w'=>e= .returned (.func (.func 136) #[] #[.pointer (some ⟨W.heap.size,0,none⟩)])/\w'=W.alloc (.cells #[.map mb] 160):=
 AnyZI.keys_in Tryz.keysItF Fence.wide 5 trivial rfl mb W
theorem Tryz.slices_Sorted_keys_itF{H:Type}(b nn:Nat)(D0:DataW H)(R:Value->Option (DataW H×List MemPlace))(w:World)(hown:w.ownsMap Tryz.prog 3 R b nn D0)(hmax:Maps.size D0<=maxLen)(jw:Maps.size D0*8<=140737488355328):
 CallsIn Fence.wide 5 Tryz.prog 93 #[.func (.func 136) #[] #[.pointer (some ⟨w.heap.size,0,none⟩)]] (w.alloc (.cells #[.map (some b)] 160)) λe w'=>∃(v:Value)(ss:List Int),e= .returned v/\ss.Perm (intKeys D0)/\
  w'.ownsRow (w.alloc (.cells #[.map (some b)] 160)).heap.size 3 1 v ss.length ((ss.mergeSort (λx y=>decide (x<=y))).map encZ)/\(v= .slice none 0 0↔ss=[])/\Below (w.alloc (.cells #[.map (some b)] 160)).heap.size (w.alloc (.cells #[.map (some b)] 160)) w':=by
 have hbl:=hown.lt;have hseq:SeqGives Fence.wide 2 Tryz.prog 136 #[.pointer (some ⟨w.heap.size,0,none⟩)] encZ (λss=>ss.Perm (intKeys D0)) (Maps.size D0) (w.alloc (.cells #[.map (some b)] 160)):=
  AnyZI.keys_gives (ρ:=Tryz.keysItF_ren) {Tryz.keysItF with} Fence.wide _ trivial rfl (by omega) w.heap.size b nn D0 _ (by simp) (by simp) (by
   obtain⟨es,clock,hb,Ft,hs,hD⟩:=hown;exact⟨es,clock,(Below.heap_alloc _ _ b hbl).trans hb,Ft,hs,hD⟩)
 exact AnyZI.sorted_in Tryz.sortedItI Fence.wide 5 trivial trivial trivial trivial rfl (by omega) (Tryz.sortsItI _) (enters_of Tryz.func40 (by kernel_rfl) rfl) 136 #[.pointer (some ⟨w.heap.size,0,none⟩)] trivial (enters_of Tryz.func136 (by kernel_rfl) rfl) _ _ hmax jw _ hseq
end Go.Proofs
namespace Go.Proofs.YtpmdedcnbockhaaGreatDoor
section
open Go.RowKit Go.Maps Go.Sort Go.Shelf
theorem d9.intKeys{w:World}{b n:Nat}{g:Int->Option Value}(h:d9 gW 3 encI w b n g):
 ∃D:DataW Value,w.ownsMap Tryz.prog 3 RM b (Maps.size D) D/\Maps.size D=n/\(Go.intKeys D).Nodup/\(∀x∈Go.intKeys D,gW x)/\∀x,gW x->(x∈Go.intKeys D↔(g x).isSome=true):=by
 obtain⟨D,h1,h2,h3,h4,h5⟩:=h;have hwf:=intKeys_wf h1 Tryz.underlying3;obtain⟨es,hD,hpw,_⟩:=h1.entries AP;obtain⟨es',hD',hko⟩:=h1.keysOf;obtain rfl:es=es':=by rw[hD]at hD';simpa using hD'
 subst hD;have hk:∀p∈es,∃x,p.1= .int .i64 x:=λp hp=>by obtain⟨v,hv⟩:=hko p hp;obtain⟨x,_,hx,_⟩:=Maps.keyOf_i64 Tryz.underlying3 hv;exact⟨x,hx⟩
 refine⟨_,h1,h2,?_,hwf,λx hx=>?_⟩
 .show(es.map λp=>Go.intOf p.1).Nodup
  refine List.pairwise_map.2 (hpw.imp_of_mem λ{p q} hp' hq' hne e=>hne ?_);obtain⟨a,ha⟩:=hk p hp';obtain⟨b,hb⟩:=hk q hq';rw[ha,hb]at e⊢;exact congrArg _ e
 .rw[<-h4 x hx,has_eq,List.any_eq_true]
  show x∈es.map (λp=>Go.intOf p.1)↔_;rw[List.mem_map];constructor
  .rintro⟨p,hp',rfl⟩
   obtain⟨a,ha⟩:=hk p hp';exact⟨p,hp',by rw[ha];simp[Lit.sameKey,Go.intOf,encI]⟩
  .rintro⟨p,hp',hs⟩
   obtain⟨a,ha⟩:=hk p hp';rw[ha]at hs;exact⟨p,hp',by rw[ha];simpa [Lit.sameKey,Go.intOf,encI]using hs⟩
def afs(g:Int->Option Value)(w:World)(e:Ending)(w':World):Prop:=
 ∃(T:List Int)(A:Option Addr)(c:Nat),e= .returned (.slice A T.length c)/\At w' 1 A T.length c (T.map (Value.int .i64))/\(∀b off,A=some ⟨b,off,none⟩->w.heap.size<=b)/\Below w.heap.size w w'/\T.Pairwise (· < ·)/\(∀x∈T,gW x)/\∀x,gW x->(x∈T↔(g x).isSome=true)
theorem Uw(b:Nat)(w:World):Calls Tryz.prog 94 #[.map (some b)] w (λe w'=>e= .returned (.func (.func 136) #[] #[.pointer (some ⟨w.heap.size,0,none⟩)])/\w'=w.alloc (.cells #[.map (some b)] 160)):=
 callsIn_wide.1 (Tryz.maps_Keys_itF _ _)
theorem xO{w:World}{B:Nat}{e:TypeId}{size n:Nat}{v:Value}{xs:List Value}(h:w.ownsRow B e size v n xs)(h1:∀u∈xs,u.oneCell'=true):∃A c,v= .slice A n c/\At w size A n c xs/\∀b off,A=some ⟨b,off,none⟩->B<=b:=by
 rcases h.2 with⟨rfl,rfl,rfl⟩|⟨g,cap,cur,rfl,hB,hg,h2,h3,h4,h5⟩
 .exact⟨none,0,rfl,⟨⟨h.1,h1,λh=>absurd h (Nat.lt_irrefl _)⟩,λ_=>⟨rfl,rfl⟩,Nat.le_refl _,Nat.zero_le _⟩,λb off e=>by cases e⟩
 .refine⟨_,cap,rfl,⟨⟨h.1,h1,λ_=>⟨_,rfl,λj u hj=>?_⟩⟩,λe=>(by cases e),h2,h3⟩,λb off e=>by simp only[Option.some.injEq,Addr.mk.injEq]at e;omega⟩
  rw[Addr.add_lit,Nat.zero_add,aG w g j _ _ _ hg];have hj2:j<xs.length:=(List.getElem?_eq_some_iff.1 hj).1;rw[<-h5,List.getElem?_take]at hj;split at hj
  .simpa using hj
  .cases hj
theorem NK{w:World}{b n:Nat}{g:Int->Option Value}(h:d9 gW 3 encI w b n g)(hn:n<=1000000):
 Calls Tryz.prog 93 #[.func (.func 136) #[] #[.pointer (some ⟨w.heap.size,0,none⟩)]] (w.alloc (.cells #[.map (some b)] 160)) (afs g (w.alloc (.cells #[.map (some b)] 160))):=by
 obtain⟨D,hown,hsz,hnd,hwf,hmem⟩:=h.intKeys;refine(callsIn_wide.1 (Tryz.slices_Sorted_keys_itF b _ D RM w hown (by rw[hsz];unfold maxLen;omega) (by rw[hsz];omega))).mono ?_;rintro e w' ⟨v,ss,rfl,hS,hrow,_,hb⟩;have hp:=List.mergeSort_perm ss (λx y:Int=>decide (x<=y));rw[<-hp.length_eq]at hrow;obtain⟨A,c,rfl,hAt,hB⟩:=xO hrow (by
  intro u hu;obtain⟨t,_,rfl⟩:=List.mem_map.1 hu;rfl)
 have hpp:=hp.trans hS;refine⟨_,A,c,rfl,hAt,hB,hb,?_,λx hx=>hwf x (hpp.mem_iff.1 hx),λx hx=>(hpp.mem_iff).trans (hmem x hx)⟩;have h1:=List.pairwise_mergeSort (le:=λx y:Int=>decide (x<=y)) (λa b c h h'=>by simp only[decide_eq_true_eq]at*;omega) (λa b=>by simp only[Bool.or_eq_true,decide_eq_true_eq];omega) ss;have h2:(ss.mergeSort (λx y=>decide (x<=y))).Nodup:=hpp.nodup_iff.2 hnd;exact List.Pairwise.imp₂ (λa b h3 h4=>by simp only[decide_eq_true_eq]at h3;omega) h1 h2
end
section
open Go.RowKit Go.Maps Go.Sort Go.Shelf
attribute [local go_sem] Oper.semAt_some
def mkB(b:aX):Value:=.agg #[.int .i64 b.ref,.int .i64 b.next]
theorem NM(m:Nat){c:Value}{l:List Lit}(h:Tryz.prog.keyLits (m+1) 3 [c]=some l):∃x:Int,c= .int .i64 x/\gW x:=by
 unfold Program.keyLits at h;rw[Tryz.underlying3]at h;cases c<;>simp at h
 rename_i q a;obtain⟨⟨rfl,hw⟩,_⟩:=h;exact⟨a,rfl,hw⟩
theorem Sn{key:Value}{kl:Lit}(h:keyOf Tryz.prog 78 key=some kl):∃x:aX,key=mkB x/\kl=oK x/\F7 x:=by
 have h0:=h;unfold keyOf at h;rw[Tryz.underlying78]at h;simp only[M7,Bool.true_and]at h;obtain⟨m,hm⟩:∃m,Tryz.prog.types.size+1=m+2:=⟨Tryz.prog.types.size - 1,by have h:0<Tryz.prog.types.size:=of_decide_eq_true (by kernel_rfl);omega⟩;rw[hm]at h;cases key<;>simp[Value.formed,Tryz.underlying78,KP]at h
 rename_i cs;obtain⟨hsz,l,hl,_⟩:=h;obtain⟨c0,c1,rfl⟩:∃c0 c1,cs=#[c0,c1]:=by
  obtain⟨l⟩:=cs
  match l,hsz with
  |[a,b],_=>exact⟨a,b,rfl⟩
 unfold Program.keyLits at hl;rw[Tryz.underlying78]at hl;simp[KP,F8,Value.cells]at hl;cases e0:Tryz.prog.keyLits (m+1) 3 [c0]with
 |none=>rw[e0]at hl;cases hl
 |some l0=>
  cases e1:Tryz.prog.keyLits (m+1) 3 [c1]with
  |none=>rw[e0,e1]at hl;cases hl
  |some l1=>
   obtain⟨x,rfl,hx⟩:=NM m e0;obtain⟨y,rfl,hy⟩:=NM m e1;have h1:=Zg (b:=⟨x,y⟩) ⟨hx,hy⟩;simp only at h1;rw[h1]at h0;injection h0 with h0
   exact⟨⟨x,y⟩,rfl,h0.symm,hx,hy⟩
theorem afu(x:aX):(oK x).sameKey (oK x)=true:=by simp[oK,Lit.sameKey]
def GY(D0:DataW Value)(left:Lit->Bool)(ss:List aX):Prop:=ss.Nodup/\(∀x∈ss,F7 x)/\∀x,F7 x->(x∈ss↔(Maps.has D0 (oK x)=true/\left (oK x)=false))
theorem GY.start(D0:DataW Value):GY D0 (Maps.has D0) []:=⟨List.nodup_nil,by simp,λx _=>by cases Maps.has D0 (oK x)<;>simp⟩
theorem GY.step{D0:DataW Value}{left:Lit->Bool}{ss:List aX}(h:GY D0 left ss){x:aX}(hx:F7 x){y:DataW Value}(hlk:left (oK x)=true)(hat:∀zd,D0.atKey (oK x) zd=y):GY D0 (λz=>left z&& !z.sameKey (oK x)) (ss++[x]):=by
 have hhas:Maps.has D0 (oK x)=true:=Maps.has_true_of_atKey hat;have hnew:x∉ss:=λhm=>by have:=((h.2.2 x hx).1 hm).2;rw[hlk]at this;cases this
 refine⟨List.nodup_append.2 ⟨h.1,by simp,λa ha b hb=>by simp at hb;subst hb;exactλe=>hnew (e▸ha)⟩,λy hy=>?_,λy hy=>?_⟩
 .rcases List.mem_append.1 hy with h1|h1
  .exact h.2.1 y h1
  .rw[List.mem_singleton.1 h1];exact hx
 .by_cases e:y=x
  .subst e
   simp[hhas,afu]
  .have hs:(oK y).sameKey (oK x)=false:=by
    cases hq:(oK y).sameKey (oK x)with
    |false=>rfl
    |true=>exact absurd (M8 _ _ hy hx (WideAt.sameKey_eq hq)) e
   simp[h.2.2 y hy,e,hs]
theorem Ux(b:Nat)(w:World):Calls Tryz.prog 96 #[.map (some b)] w (λe w'=>e= .returned (.func (.func 139) #[] #[.pointer (some ⟨w.heap.size,0,none⟩)])/\w'=w.alloc (.cells #[.map (some b)] 161)):=by
 go_enter Tryz.func96,Tryz.ntmps96;go_wp2;go_ret;exact⟨rfl,rfl⟩
def NP(mb b:Nat)(V V':World):Prop:=V.heap.size<=V'.heap.size/\∀k o,(k=mb\/b<=k)->V.heap[k]?=some o->o.isCells=false->V'.heap[k]?=some o
theorem Ef{K:TypeId}{R:Value->Option (DataW Value×List MemPlace)}{w w':World}{b r n:Nat}{D:DataW Value}{left:Lit->Bool}{cnt:Nat}(h:w.ranges Tryz.prog K R b r n D left cnt)(hk:NP b r w w'):w'.ranges Tryz.prog K R b r n D left cnt:=by
 obtain⟨es,clock,since,seen,c0,hb,F,hs,hD,hr,rest⟩:=h;exact⟨es,clock,since,seen,c0,hk.2 b _ (.inl rfl) hb rfl,F,hs,hD,hk.2 r _ (.inr (Nat.le_refl _)) hr rfl,rest⟩
theorem NQ{S:Nat->Prop}{V V':World}{r:Nat}(h:V.grownBy V' (some r))(hr:S r)(ho:∃o:Obj,V.heap[r]?=some o/\o.isCells=false):fI S V V':=
 ⟨h.os,h.tape,h.output,h.size,λk hk hn=>h.block k hk (λe=>by injection e with e;exact hn (by subst e;exact⟨hr,ho⟩))⟩
theorem QD{Bm mb nn:Nat}{D0:DataW Value}(n:Nat)(hn:1<=n)(I:Nat->List aX->World->Prop)(W:World)(hm:W.cell? ⟨Bm,0,none⟩=some (.map (some mb)))(hown:W.ownsMap Tryz.prog 78 RM mb nn D0):
 WY Fence.wide n Tryz.prog 139 #[.pointer (some ⟨Bm,0,none⟩)] (λ(_:Nat)(x:aX)=>#[mkB x]) (λb V V'=>fI (λk=>b<=k) V V') (NP mb) I (λ_ pre _ _=>pre.length<Maps.size D0) (λ_ _ _ _=>False) (λxs=>xs.length<=Maps.size D0/\xs.Nodup/\(∀x∈xs,F7 x)/\∀x,F7 x->(x∈xs↔Maps.has D0 (oK x)=true)) (λ_=>False) W:=by
 intro l J JL Qg hJ0 hJM _ hY _;have KV:=ah hJ0;clear hJ0;have HJM:=ah hJM;clear hJM;have HY:=ah hY;clear hY;clear Qg;refine callsIn_of_wp Tryz.func139 rfl trivial ?_ rfl;simp only[Tryz.ntmps139,List.size_toArray,List.length_cons,List.length_nil,Nat.reduceAdd,Nat.reduceSub,Array.replicate_succ,Array.replicate_zero,List.push_toArray,List.append_toArray,List.nil_append,List.cons_append];gi_wp2_with (gi_at_range;refine wpListIn_range_own _ rfl _ 161 rfl 78 4 Zf Tryz.underlying161 _ mb nn _ rfl hown ?_;intro w0 hrg0 hg0 hs0);have hb0:Below W.heap.size W w0:=⟨hg0.os,hg0.tape,hg0.output,hg0.size,λk hk=>hg0.block k hk (λe=>by cases e)⟩;have HJS:=ah (KV.out W.heap.size w0 hb0 (Nat.le_refl _));have afv:=ah hrg0;clear hrg0;have HOWN:=ah hown;clear hown;clear hg0 hs0 hb0 KV
 gi_loopw [3] (λ_ wr=>∃(left:Lit->Bool)(cnt:Nat)(ss:List aX),Hid (wr.ranges Tryz.prog 78 RM mb W.heap.size nn D0 left cnt)/\Hid (GY D0 left ss)/\ss.length+cnt<=Maps.size D0/\Hid (J W.heap.size ss wr))
  (λ_ wr=>wr.rangeLeft mb W.heap.size)
 case atStart=>exact⟨_,_,[],afv,GY.start D0,by simp,HJS⟩
 case round=>
  obtain⟨left,cnt,ss,hrg,hC,hcs,hJs⟩:=hrel;clear afv HJS;gi_wp2_with (gi_at_next;refine wpListIn_next_ranges _ rfl _ rfl 78 Zf RM mkB id (λkey kl hk=>by obtain⟨x,hx,_⟩:=Sn hk;exact⟨x,hx⟩) (λv _ _=>⟨v,rfl⟩) mb W.heap.size nn _ _ _ rfl hrg.out ?_ ?_)
  .intro hc0 hl0
   have abu:Hid (ss.length<=Maps.size D0/\ss.Nodup/\(∀x∈ss,F7 x)/\∀x,F7 x->(x∈ss↔Maps.has D0 (oK x)=true)):=⟨by omega,hC.out.1,hC.out.2.1,λx hx=>by rw[hC.out.2.2 x hx,hl0];simp⟩;clear hl0;gi_wp2
   go_end0
   exact⟨⟨_,rfl⟩,W.heap.size,Nat.le_refl _,.inl ⟨ss,abu.out,hJs.out⟩⟩
  .intro x c kl yd yp w2 cnt2 hkey hlk hv hat hrg2 hlt hg2 hs2 hen
   obtain⟨x',ex,rfl,hx⟩:=Sn hkey;obtain rfl:x=x':=by
    obtain⟨a,b⟩:=x;obtain⟨c,d⟩:=x';simp only[mkB,Value.agg.injEq,Array.mk.injEq,List.cons.injEq,Value.int.injEq,true_and,and_true]at ex;rw[ex.1,ex.2]
   have KH:=ah (hC.out.step hx hlk hat);have ai1:=ah hrg2;clear hrg2;have hob:∃o:Obj,wr.heap[W.heap.size]?=some o/\o.isCells=false:=by
    obtain⟨o,ho,hw⟩:=hrg.out.iter_walk;exact⟨o,ho,Obj.not_cells_of_walk hw⟩
   have HT2:Hid (fI (λk=>W.heap.size<=k) wr w2):=NQ hg2 (Nat.le_refl _) hob;have hlen:ss.length<Maps.size D0:=by omega
   have Nr:Hid (wr.rangeLeft mb W.heap.size=cnt):=hrg.out.left_eq;clear hC hkey hlk hv hat hg2 hs2 hob;obtain⟨xr,xn⟩:=x;simp only[mkB]at hen
   gi_upto_region 3 with(fail)
   generalize hWa:World.alloc _ _=Wa;obtain⟨hba,hxa⟩:=bx1' hWa;have q0:Wa.cell? ⟨w2.heap.size,0,none⟩=some (.int .i64 xr):=(aG Wa _ 0 _ _ _ hxa).trans rfl;have q1:Wa.cell? ⟨w2.heap.size,1,none⟩=some (.int .i64 xn):=(aG Wa _ 1 _ _ _ hxa).trans rfl;have hJ2:J W.heap.size ss Wa:=HJM.out _ _ _ _ hJs.out (HT2.out.trans (fI.of_below hba));have ai2:Hid (Wa.ranges Tryz.prog 78 RM mb W.heap.size nn D0 (λz=>left z&& !z.sameKey (oK ⟨xr,xn⟩)) cnt2):=Ef ai1.out ⟨hba.size,λk o _ hk _=>(hba.block k (av hk)).trans hk⟩;obtain⟨fn,tmps,assign,body,hy,hR⟩:=HY.out _ ss ⟨xr,xn⟩ Wa hJ2 hlen;simp only[mkB]at hy;clear hWa hba hxa hen hJ2;gi_wp2;refine hR.mono ?_;rintro e W3 ⟨rfl,hJ3,hk3⟩;have afw:=ah (Ef ai2.out hk3);have Vy:=ah hJ3;clear hJ3 hk3 hR hy q0 q1;gi_wp2
   go_roundw
   case rel=>exact⟨_,cnt2,ss++[⟨xr,xn⟩],afw,KH,by rw[List.length_append,List.length_singleton];omega,Vy⟩
   case measure=>rw[afw.out.left_eq,Nr.out];exact hlt
end
open Go.RowKit Go.Maps Go.Sort Go.Shelf
attribute [local go_sem] Oper.semAt_some
theorem qI{S:Nat->Prop}{w w':World}{B:Nat}{e:TypeId}{size n:Nat}{v:Value}{xs:List Value}(h:w.ownsRow B e size v n xs)(ht:fI S w w'):w'.ownsRow B e size v n xs:=by
 refine⟨h.1,?_⟩;rcases h.2 with h0|⟨g,cap,cur,hv,hB,hg,r⟩
 .exact .inl h0
 .exact .inr ⟨g,cap,cur,hv,hB,ht.cells hg,r⟩
theorem dM{w w':World}{B:Nat}{e:TypeId}{size n:Nat}{v:Value}{xs:List Value}(h:w.ownsRow B e size v n xs)(hb:Below w.heap.size w w'):w'.ownsRow B e size v n xs:=by
 refine⟨h.1,?_⟩;rcases h.2 with h0|⟨g,cap,cur,hv,hB,hg,r⟩
 .exact .inl h0
 .exact .inr ⟨g,cap,cur,hv,hB,(hb.block g (av hg)).trans hg,r⟩
theorem xP{w:World}{B:Nat}{e:TypeId}{size n:Nat}{v:Value}{xs:List Value}(h:w.ownsRow B e size v n xs){p:Addr}(hp:v.ownBlock≠some p.block)(u:Value):(w.setCell p u).ownsRow B e size v n xs:=by
 refine⟨h.1,?_⟩;rcases h.2 with h0|⟨g,cap,cur,rfl,hB,hg,r⟩
 .exact .inl h0
 .refine .inr ⟨g,cap,cur,rfl,hB,?_,r⟩
  rw[Below.heap_setCell _ _ _ g (λe=>hp (by rw[e];rfl))];exact hg
theorem GZ{S:Nat->Prop}{w V V':World}(h:Below w.heap.size w V)(ht:fI S V V')(hS:∀k,S k->w.heap.size<=k):Below w.heap.size w V':=h.trans (aH.below ht h.size (λk hk=>hS k hk.1))
theorem cZ{w:World}{B:Nat}{e:TypeId}{size n:Nat}{v:Value}{xs:List Value}(h:w.ownsRow B e size v n xs){k:Nat}{cs:Array Value}{t:TypeId}{fz:Nat×Nat}(hk:w.heap[k]?=some (.cells cs t fz))(hne:t≠e):v.ownBlock≠some k:=λe'=>by
 rcases h.2 with⟨rfl,_⟩|⟨g,cap,cur,rfl,_,h3,_⟩
 .cases e'
 .simp only[Value.ownBlock,Option.some.injEq]at e'
  subst e';rw[hk]at h3;injection h3 with h3
  injection h3 with _ h3 _
  exact hne h3
theorem qj{F:Fence}{nf:Nat}{P:Program}{W:World}{ops:Array Oper}{rest:List Oper}{o:Oper}{a:Act}{Q:Exit->Act->World->Prop}
 (hg:o.guard=none)(s x:Operand)(T:TypeId)(hop:o.op=Op.call {callee:=Callee.builtin Builtin.append,args:=#[s,x],argTypes:=#[T,T]})
 (e:TypeId)(i:TypeInfo)(z:Value)(size bytes:Nat)(ht:P.underlying T=some (.slice e))(hi:P.info? e=some i)(hz:i.zero=some z)(hsize:i.size=size)(hby:i.bytes=bytes)(hzs:z.cells.size=size)(h0:0<size)
 (B:Nat)(v:Value)(n:Nat)(xs:List Value)(hs:a.eval s=v)(hown:W.ownsRow B e size v n xs)(cs:List Value)(arr:Array Value)(harr:arr=cs.toArray)(hcs:cs.length=size)(h1:∀u∈cs,u.oneCell'=true)
 (hx:a.eval x= .slice (some ⟨W.heap.size,0,none⟩) 1 1)(hlen:n+1<=maxLen)(hb:(n+1)*bytes<=140737488355328)(hBW:B<=W.heap.size)
 (hK:∀g' c' w',w'.ownsRow B e size (.slice (some ⟨g',0,none⟩) (n+1) c') (n+1) (xs++cs)->(W.alloc (.cells arr e)).grownBy w' v.ownBlock->wpListIn F nf P ops Q rest (a.put o.dst (.slice (some ⟨g',0,none⟩) (n+1) c')) w'):
 wpListIn F nf P ops Q (o::rest) a (W.alloc (.cells arr e)):=by
 subst harr;refine wpListIn_append_own _ hg s x T hop B e i z size bytes ht hi hz hsize hby hzs h0 v n xs hs (World.ownsRow.alloc hown _) ⟨W.heap.size,0,none⟩ 1 1 cs hx (by omega)
  (λj u hj=>by
   rw[Addr.add_lit,aG _ _ (0+j) _ _ _ (bC W _)];simpa using hj) h1 hlen hb (by simp;omega) ?_
 intro v' w' hown' hgrow hnil;rcases hown'.2 with⟨e,_⟩|⟨g,cap,cur,rfl,_⟩
 .have:=(hnil.1 e).2;omega
 .exact hK g cap w' hown' hgrow
theorem ownsRow_form{w:World}{B:Nat}{e:TypeId}{size n:Nat}{v:Value}{xs:List Value}(h:w.ownsRow B e size v n xs):∃A c,v= .slice A n c:=by
 rcases h.2 with⟨rfl,rfl,_⟩|⟨g,cap,cur,rfl,_⟩
 .exact⟨_,_,rfl⟩
 .exact⟨_,_,rfl⟩
theorem qJ(l:List aX):(eB l).length=l.length*2:=gK aX.cells 2 (λ_=>rfl) l
theorem Bv(F:List aX):∀u∈eB F,u.oneCell'=true:=by
 intro u hu;obtain⟨x,_,hx⟩:=List.mem_flatMap.1 hu;simp only[aX.cells,List.mem_cons,List.not_mem_nil,or_false]at hx;rcases hx with rfl|rfl<;>rfl
def Xx(D0:DataW Value)(w:World)(e:Ending)(w':World):Prop:=
 ∃(T:List aX)(v:Value),e= .returned v/\w'.ownsRow w.heap.size 78 2 v T.length (eB T)/\Below w.heap.size w w'/\T.length<=Maps.size D0/\T.Nodup/\(∀x∈T,F7 x)/\∀x,F7 x->(x∈T↔Maps.has D0 (oK x)=true)
structure Lj(w:World)(Bs:Nat)(pre:List aX)(V:World):Prop where
 box:∃v,V.heap[Bs]?=some (.cells #[v] 29 (0,0))/\V.ownsRow w.heap.size 78 2 v pre.length (eB pre)
 below:Below w.heap.size w V
theorem Lj.turn{w:World}{Bs:Nat}{pre:List aX}{V V':World}{S:Nat->Prop}(h:Lj w Bs pre V)(ht:fI S V V')(hS:∀k,S k->w.heap.size<=k):Lj w Bs pre V':=by
 obtain⟨⟨v,h1,h2⟩,h3⟩:=h;exact⟨⟨v,ht.cells h1,qI h2 ht⟩,GZ h3 ht hS⟩
theorem QE{mb b D:Nat}{V V1 Y1 Y:World}(hmb:mb≠D+1)(hb:D+2<=b)(h1:uH D V V1)(hk:NP mb b V1 Y1)(h2:uH D Y1 Y):NP mb b V Y:=by
 refine⟨Nat.le_trans h1.size (Nat.le_trans hk.1 h2.size),λk o hko ho hc=>?_⟩;have hk1:k≠D+1:=by omega
 have e1:V1.heap[k]?=some o:=by rw[h1.same (λh=>hk1 h) (av ho)];exact ho
 have e2:=hk.2 k o hko e1 hc;rw[h2.same (λh=>hk1 h) (av e2)];exact e2
theorem Uy{mb b:Nat}{V V':World}{S:Nat->Prop}(hu:aH S V V')(hS:∀k o,S k->V.heap[k]?=some o->o.isCells=true):NP mb b V V':=
 ⟨hu.size,λk o _ hk ho=>hu.keep hk (λhs=>by have:=hS k o hs hk;rw[ho]at this;cases this)⟩
theorem G5{Bm mb nn:Nat}{D0:DataW Value}(w:World)(hm:w.cell? ⟨Bm,0,none⟩=some (.map (some mb)))(hown:w.ownsMap Tryz.prog 78 RM mb nn D0)(hsz:Maps.size D0<=1000000):
 Calls Tryz.prog 161 #[.slice none 0 0,.func (.func 139) #[] #[.pointer (some ⟨Bm,0,none⟩)]] w (Xx D0 w):=by
 have hml:=hown.lt;have hBm:=World.block_lt_of_cell? w ⟨Bm,0,none⟩ hm;simp only at hBm;have HM:=ah hm;clear hm;have HOWN:=ah hown;clear hown;refine(callsIn_wide (n:=4)).1 ?_;refine callsIn_of_wp_marks Tryz.func161 rfl trivial ?_ rfl;simp only[Tryz.ntmps161,List.size_toArray,List.length_cons,List.length_nil,Nat.reduceAdd,Nat.reduceSub,Array.replicate_succ,Array.replicate_zero,List.push_toArray,List.append_toArray,List.nil_append,List.cons_append]
 gi_upto_region 1 with(fail)
 generalize hW0:World.alloc _ _=W0;obtain⟨HB,hh0⟩:=bx1 hW0;have J5:Hid (W0.heap[w.heap.size]?=some (.cells #[.slice none 0 0] 29 (0,0))):=hh0;have hs0:w.heap.size<W0.heap.size:=av hh0;clear hW0 hh0;gi_wp2;obtain⟨ib,hbi,hbz,hbs,hbb⟩:=info_parts' (P:=Tryz.prog) (t:=78) (z:=some (.agg #[.int .i64 0,.int .i64 0])) (s:=2) (b:=16) (by kernel_rfl);refine m_ (α:=aX) rfl (by omega) (gf:=139) rfl trivial (enters_of Tryz.func139 (by kernel_rfl) rfl)
  (λW1 h1 _=>QD (Bm:=Bm) (mb:=mb) (nn:=nn) (D0:=D0) _ (by omega)
   (λ_ pre V=>Lj w w.heap.size pre V) W1 (((HB.out.trans (h1.mono HB.out.size)).cell (p:=⟨Bm,0,none⟩) hBm).trans HM.out) (by
    have hb:=HB.out.trans (h1.mono HB.out.size);obtain⟨es,clock,h2,h3⟩:=HOWN.out;exact⟨es,clock,(hb.block mb hml).trans h2,h3⟩)) (λ_ _=>rfl)
  (λ_ _ _=>True) (λ_ _ _ _ h ht=>h.turn ht (λk hk=>by omega)) (λ_ _ _ _ h _=>h) (λ_ _ _ _ _ h _=>h) (λ_ _ _ _ _ h _=>h) (λ_ _ _ _ _ hb h1 hk h2=>QE (by omega) hb h1 hk h2)
  (λ_ _ _ _ _ hb hm hk1 hk2 ho hc=>by rw[hm.same (λh=>by omega) (av ho)];exact ho) (λ_ _ _ _ hb h hm=>h.turn hm (λk hk=>by omega)) (λ_ _ _ _ _ h _=>h)
  (λx=>[.cells #[.int .i64 x.ref,.int .i64 x.next] 78]) (λ_ V hV _=>⟨⟨_,(hV.block _ hs0).trans J5.out,World.ownsRow_nil _ _ _ _⟩,HB.out.trans (hV.mono HB.out.size)⟩) ?a1 ?assign ?body (λ_ _ _ _ _ _ _ _ h=>h.elim) ?done (λ_ _ _ _ _ _ h=>h.elim)
 case assign=>
  intro l b x W k K hk hK;simp only[mkB];gi_wp2;try rw[hk]
  exact hK
 case body=>
  as_aux_lemma=>
   rintro l b0 pre ⟨xr,xn⟩ W k hb hI hlen hk hbx;have hq:=hbx 0 _ rfl;rw[Nat.add_zero]at hq;simp only at hq;have q0:W.cell? ⟨k,0,none⟩=some (.int .i64 xr):=(aG W _ 0 _ _ _ hq).trans rfl;have q1:W.cell? ⟨k,1,none⟩=some (.int .i64 xn):=(aG W _ 1 _ _ _ hq).trans rfl;obtain⟨⟨v,hv,hrow⟩,hbw⟩:=hI;obtain⟨vA,vc,rfl⟩:=ownsRow_form hrow;have b0':W.cell? ⟨w.heap.size,0,none⟩=some (.slice vA pre.length vc):=(aG W _ 0 _ _ _ hv).trans rfl;have HV:=ah hv;clear hv;have mG:=ah hrow;clear hrow;have xE:=ah hbw;clear hbw;clear hq hbx;have hsW:=xE.out.size;gi_wp2_with (gi_at_builtin;refine qj rfl _ _ 29 rfl 78 ib (.agg #[.int .i64 0,.int .i64 0]) 2 16 Tryz.underlying29 hbi hbz hbs hbb rfl (by decide) w.heap.size _ pre.length _ rfl mG.out [.int .i64 xr,.int .i64 xn] _ rfl rfl (by intro u hu;simp only[List.mem_cons,List.not_mem_nil,or_false]at hu;rcases hu with rfl|rfl<;>rfl) rfl (by unfold maxLen;omega) (by omega) (by omega) ?_;intro g6 c6 w6 h1 h2;refine Hid.out ?_);refine ah ?_;have EW:Hid ((Value.slice vA pre.length vc).ownBlock≠some w.heap.size):=cZ mG.out HV.out (by decide);have hlW:w.heap.size<W.heap.size:=av HV.out;have Sq:Hid (w6.heap[w.heap.size]?=some (.cells #[.slice vA pre.length vc] 29 (0,0))):=by
    show _=_;rw[h2.block _ (by rw[aM];omega) (λe=>EW.out e.symm)];exact(Below.heap_alloc _ _ _ hlW).trans HV.out
   have II:Hid (w6.ownsRow w.heap.size 78 2 (.slice (some ⟨g6,0,none⟩) (pre.length+1) c6) (pre++[(⟨xr,xn⟩:aX)]).length (eB (pre++[(⟨xr,xn⟩:aX)]))):=by
    show World.ownsRow _ _ _ _ _ _ _;rw[List.length_append,List.length_singleton];have e:eB (pre++[(⟨xr,xn⟩:aX)])=eB pre++[.int .i64 xr,.int .i64 xn]:=by unfold eB;rw[List.flatMap_append];rfl
    rw[e];exact h1
   have ai3:Hid ((Value.slice (some ⟨g6,0,none⟩) (pre.length+1) c6).ownBlock≠some w.heap.size):=cZ II.out Sq.out (by decide);have vC:Hid (aH (λk=>(Value.slice vA pre.length vc).ownBlock=some k\/k=w.heap.size) W w6):=by
    refine aH.trans ((aH.refl _ W).alloc _) (aH.jm h2) (λi _ h=>.inl h)
   have b6:w6.cell? ⟨w.heap.size,0,none⟩=some (.slice vA pre.length vc):=(aG w6 _ 0 _ _ _ Sq.out).trans rfl;have f6:w6.frozen? ⟨w.heap.size,0,none⟩=false:=by simp[World.frozen?,Sq.out]
   clear h1 h2 b0' q0 q1;gi_wp2;have hu:aH (λk=>(Value.slice vA pre.length vc).ownBlock=some k\/k=w.heap.size) W (w6.setCell ⟨w.heap.size,0,none⟩ (.slice (some ⟨g6,0,none⟩) (pre.length+1) c6)):=vC.out.setCell (.inl (.inr rfl)) _;refine⟨oC _ hu ?hc,Uy hu ?hc,⟨_,?_,xP II.out ai3.out _⟩,xE.out.trans (hu.below hsW (λk hk=>?_))⟩
   case hc=>
    rintro k o (e|rfl) ho
    .rcases mG.out.2 with⟨he,_⟩|⟨g,cap,cur,he,_,hg,_⟩
     .rw[he]at e;cases e
     .rw[he]at e
      simp only[Value.ownBlock,Option.some.injEq]at e;subst e;rw[hg]at ho;cases ho
      rfl
    .rw[HV.out]at ho
     cases ho
     rfl
   .have h:=heap_setCell_same (i:=0) Sq.out (.slice (some ⟨g6,0,none⟩) (pre.length+1) c6)
    exact h
   .rcases hk with e|rfl
    .exact(mG.out.lt k e).1
    .exact Nat.le_refl _
 case done=>
  rintro D b0 xs W hD hb ⟨hS0,hS1,hS2,hS3⟩ ⟨⟨v,hv,hrow⟩,hbw⟩ hK;obtain⟨vA,vc,rfl⟩:=ownsRow_form hrow;have b0':W.cell? ⟨w.heap.size,0,none⟩=some (.slice vA xs.length vc):=(aG W _ 0 _ _ _ hv).trans rfl;have mG:=ah hrow;clear hrow;have xE:=ah hbw;clear hbw;have HK:=ah hK;clear hK;have H1:=ah hS1;clear hS1;have H2:=ah hS2;clear hS2;have H3:=ah hS3;clear hS3;clear hv;gi_wp2;refine⟨by simp,.inl ⟨_,_,rfl,run_takeDeferred HK.out,?_⟩⟩;have ht:=fI.putObj (S:=λk=>k=D) (.deferred none) rfl HK.out rfl;refine⟨.slice vA xs.length vc,by simp[results,Tryz.results161,go_sem],⟨xs,_,rfl,qI mG.out ht,GZ xE.out ht (λk hk=>by omega),hS0,H1.out,H2.out,H3.out⟩⟩
end Go.Proofs.YtpmdedcnbockhaaGreatDoor

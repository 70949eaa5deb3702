/- part -/
import Derived.Test.YtpmdedcnbockhaaGreatDoorS12
import Derived.Test.YtpmdedcnbockhaaGreatDoorS13
set_option maxRecDepth 100000
set_option maxHeartbeats 8000000
namespace Go.Proofs
open Go.RowKit Go.Maps Go.Sort Go.Shelf Tryz
theorem Tryz.sortsItI(m:Nat):AnyZI.SortsIn prog Tryz.sortedItI_ren Fence.wide m:=
 ⟨λblk off cap ss W hH hblk hsz=>callsIn_wide.2 (AnyM.slices_Sort_int Tryz.sortItI blk off cap ss W hH hblk hsz),
  λp cap W=>callsIn_wide.2 (AnyM.slices_Sort_int_none Tryz.sortItI p cap W)⟩
theorem Tryz.maps_Keys_itF(mb:Option Nat)(W:World):CallsIn Fence.wide 5 prog 94 #[.map mb] W λe w'=>e= .returned (.func (.func 136) #[] #[.pointer (some ⟨W.heap.size,0,none⟩)])/\w'=W.alloc (.cells #[.map mb] 160):=
 AnyZI.keys_in Tryz.keysItF Fence.wide 5 trivial rfl mb W
theorem Tryz.slices_Sorted_keys_itF{H:Type}(b nn:Nat)(D0:DataW H)(R:Value->Option (DataW H×List MemPlace))(w:World)(hown:w.ownsMap prog 3 R b nn D0)(hmax:Maps.size D0<=maxLen)(jR:Maps.size D0*8<=140737488355328):
 CallsIn Fence.wide 5 prog 93 #[.func (.func 136) #[] #[.pointer (some ⟨w.heap.size,0,none⟩)]] (w.alloc (.cells #[.map (some b)] 160)) λe w'=>∃(v:Value)(ss:List Int),e= .returned v/\ss.Perm (intKeys D0)/\
  w'.ownsRow (w.alloc (.cells #[.map (some b)] 160)).heap.size 3 1 v ss.length ((ss.mergeSort (λx y=>decide (x<=y))).map encZ)/\(v= .slice none 0 0↔ss=[])/\Below (w.alloc (.cells #[.map (some b)] 160)).heap.size (w.alloc (.cells #[.map (some b)] 160)) w':=by
 have hbl:=hown.lt;have hseq:SeqGives Fence.wide 2 prog 136 #[.pointer (some ⟨w.heap.size,0,none⟩)] encZ (λss=>ss.Perm (intKeys D0)) (Maps.size D0) (w.alloc (.cells #[.map (some b)] 160)):=
  AnyZI.keys_gives (ρ:=Tryz.keysItF_ren) {Tryz.keysItF with} Fence.wide _ trivial rfl (by omega) w.heap.size b nn D0 _ (by simp) (by simp) (by
   obtain⟨es,clock,hb,Ft,hs,hD⟩:=hown;exact⟨es,clock,(Below.heap_alloc _ _ b hbl).trans hb,Ft,hs,hD⟩)
 exact AnyZI.sorted_in Tryz.sortedItI Fence.wide 5 trivial trivial trivial trivial rfl (by omega) (Tryz.sortsItI _) (enters_of func40 (by kernel_rfl) rfl) 136 #[.pointer (some ⟨w.heap.size,0,none⟩)] trivial (enters_of func136 (by kernel_rfl) rfl) _ _ hmax jR _ hseq
end Go.Proofs
namespace Go.Proofs.YtpmdedcnbockhaaGreatDoor
section
open Go.RowKit Go.Maps Go.Sort Go.Shelf Tryz
theorem eD.intKeys{w:World}{b n:Nat}{g:Int->Option Value}(h:eD iK 3 encI w b n g):
 ∃D:DataW Value,w.ownsMap prog 3 RM b (Maps.size D) D/\Maps.size D=n/\(Go.intKeys D).Nodup/\(∀x∈Go.intKeys D,iK x)/\∀x,iK x->(x∈Go.intKeys D↔(g x).isSome=true):=by
 obtain⟨D,h1,h2,h3,h4,h5⟩:=h;have hwf:=intKeys_wf h1 underlying3;obtain⟨es,hD,hpw,_⟩:=h1.entries BP;obtain⟨es',hD',hko⟩:=h1.keysOf;obtain rfl:es=es':=by rw[hD]at hD';simpa using hD'
 subst hD;have hk:∀p∈es,∃x,p.1= .int .i64 x:=λp hp=>by obtain⟨v,hv⟩:=hko p hp;obtain⟨x,_,hx,_⟩:=Maps.keyOf_i64 underlying3 hv;exact⟨x,hx⟩
 refine⟨_,h1,h2,?_,hwf,λx hx=>?_⟩
 .show(es.map λp=>Go.intOf p.1).Nodup
  refine List.pairwise_map.2 (hpw.imp_of_mem λ{p q} hp' hq' hne e=>hne ?_);obtain⟨a,ha⟩:=hk p hp';obtain⟨b,hb⟩:=hk q hq';rw[ha,hb]at e⊢;exact congrArg _ e
 .rw[<-h4 x hx,has_eq,List.any_eq_true]
  show x∈es.map (λp=>Go.intOf p.1)↔_;rw[List.mem_map];constructor
  .rintro⟨p,hp',rfl⟩
   obtain⟨a,ha⟩:=hk p hp';exact⟨p,hp',by rw[ha];simp[Lit.sameKey,Go.intOf,encI]⟩
  .rintro⟨p,hp',hs⟩
   obtain⟨a,ha⟩:=hk p hp';rw[ha]at hs;exact⟨p,hp',by rw[ha];simpa [Lit.sameKey,Go.intOf,encI]using hs⟩
def agT(g:Int->Option Value)(w:World)(e:Ending)(w':World):Prop:=
 ∃(T:List Int)(A:Option Addr)(c:Nat),e= .returned (.slice A T.length c)/\At w' 1 A T.length c (T.map (Value.int .i64))/\(∀b off,A=some ⟨b,off,none⟩->w.heap.size<=b)/\Below w.heap.size w w'/\T.Pairwise (· < ·)/\(∀x∈T,iK x)/\∀x,iK x->(x∈T↔(g x).isSome=true)
theorem Vq(b:Nat)(w:World):Calls prog 94 #[.map (some b)] w (λe w'=>e= .returned (.func (.func 136) #[] #[.pointer (some ⟨w.heap.size,0,none⟩)])/\w'=w.alloc (.cells #[.map (some b)] 160)):=
 callsIn_wide.1 (Tryz.maps_Keys_itF _ _)
theorem yO{w:World}{B:Nat}{e:TypeId}{size n:Nat}{v:Value}{xs:List Value}(h:w.ownsRow B e size v n xs)(h1:∀u∈xs,u.oneCell'=true):∃A c,v= .slice A n c/\At w size A n c xs/\∀b off,A=some ⟨b,off,none⟩->B<=b:=by
 rcases h.2 with⟨rfl,rfl,rfl⟩|⟨g,cap,cur,rfl,hB,hg,h2,h3,h4,h5⟩
 .exact⟨none,0,rfl,⟨⟨h.1,h1,λh=>absurd h (Nat.lt_irrefl _)⟩,λ_=>⟨rfl,rfl⟩,Nat.le_refl _,Nat.zero_le _⟩,λb off e=>by cases e⟩
 .refine⟨_,cap,rfl,⟨⟨h.1,h1,λ_=>⟨_,rfl,λj u hj=>?_⟩⟩,λe=>(by cases e),h2,h3⟩,λb off e=>by simp only[Option.some.injEq,Addr.mk.injEq]at e;omega⟩
  rw[Addr.add_lit,Nat.zero_add,cell_of_row w g j _ _ _ hg];have hj2:j<xs.length:=(List.getElem?_eq_some_iff.1 hj).1;rw[<-h5,List.getElem?_take]at hj;split at hj
  .simpa using hj
  .cases hj
theorem OP{w:World}{b n:Nat}{g:Int->Option Value}(h:eD iK 3 encI w b n g)(hn:n<=1000000):
 Calls prog 93 #[.func (.func 136) #[] #[.pointer (some ⟨w.heap.size,0,none⟩)]] (w.alloc (.cells #[.map (some b)] 160)) (agT g (w.alloc (.cells #[.map (some b)] 160))):=by
 obtain⟨D,hown,hsz,hnd,hwf,hmem⟩:=h.intKeys;refine(callsIn_wide.1 (Tryz.slices_Sorted_keys_itF b _ D RM w hown (by rw[hsz];unfold maxLen;omega) (by rw[hsz];omega))).mono ?_;rintro e w' ⟨v,ss,rfl,hS,hrow,_,hb⟩;have hp:=List.mergeSort_perm ss (λx y:Int=>decide (x<=y));rw[<-hp.length_eq]at hrow;obtain⟨A,c,rfl,hAt,hB⟩:=yO hrow (by
  intro u hu;obtain⟨t,_,rfl⟩:=List.mem_map.1 hu;rfl)
 have hpp:=hp.trans hS;refine⟨_,A,c,rfl,hAt,hB,hb,?_,λx hx=>hwf x (hpp.mem_iff.1 hx),λx hx=>(hpp.mem_iff).trans (hmem x hx)⟩;have h1:=List.pairwise_mergeSort (le:=λx y:Int=>decide (x<=y)) (λa b c h h'=>by simp only[decide_eq_true_eq]at*;omega) (λa b=>by simp only[Bool.or_eq_true,decide_eq_true_eq];omega) ss;have h2:(ss.mergeSort (λx y=>decide (x<=y))).Nodup:=hpp.nodup_iff.2 hnd;exact List.Pairwise.imp₂ (λa b h3 h4=>by simp only[decide_eq_true_eq]at h3;omega) h1 h2
end
section
open Go.RowKit Go.Maps Go.Sort Go.Shelf Tryz
attribute [local go_sem] Oper.semAt_some
def mkB(b:aX):Value:=.agg #[.int .i64 b.ref,.int .i64 b.next]
theorem OQ(m:Nat){c:Value}{l:List Lit}(h:prog.keyLits (m+1) 3 [c]=some l):∃x:Int,c= .int .i64 x/\iK x:=by
 unfold Program.keyLits at h;rw[underlying3]at h;cases c<;>simp at h
 rename_i q a;obtain⟨⟨rfl,hw⟩,_⟩:=h;exact⟨a,rfl,hw⟩
theorem TU{key:Value}{kl:Lit}(h:keyOf prog 78 key=some kl):∃x:aX,key=mkB x/\kl=pK x/\GK x:=by
 have h0:=h;unfold keyOf at h;rw[underlying78]at h;simp only[NY,Bool.true_and]at h;obtain⟨m,hm⟩:∃m,prog.types.size+1=m+2:=⟨prog.types.size - 1,by have h:0<prog.types.size:=of_decide_eq_true (by kernel_rfl);omega⟩;rw[hm]at h;cases key<;>simp[Value.formed,underlying78,LB]at h
 rename_i cs;obtain⟨hsz,l,hl,_⟩:=h;obtain⟨c0,c1,rfl⟩:∃c0 c1,cs=#[c0,c1]:=by
  obtain⟨l⟩:=cs
  match l,hsz with
  |[a,b],_=>exact⟨a,b,rfl⟩
 unfold Program.keyLits at hl;rw[underlying78]at hl;simp[LB,GL,Value.cells]at hl;cases e0:prog.keyLits (m+1) 3 [c0]with
 |none=>rw[e0]at hl;cases hl
 |some l0=>
  cases e1:prog.keyLits (m+1) 3 [c1]with
  |none=>rw[e0,e1]at hl;cases hl
  |some l1=>
   obtain⟨x,rfl,hx⟩:=OQ m e0;obtain⟨y,rfl,hy⟩:=OQ m e1;have h1:=aal (b:=⟨x,y⟩) ⟨hx,hy⟩;simp only at h1;rw[h1]at h0;injection h0 with h0
   exact⟨⟨x,y⟩,rfl,h0.symm,hx,hy⟩
theorem agU(x:aX):(pK x).sameKey (pK x)=true:=by simp[pK,Lit.sameKey]
def Ip(D0:DataW Value)(left:Lit->Bool)(ss:List aX):Prop:=ss.Nodup/\(∀x∈ss,GK x)/\∀x,GK x->(x∈ss↔(Maps.has D0 (pK x)=true/\left (pK x)=false))
theorem Ip.start(D0:DataW Value):Ip D0 (Maps.has D0) []:=⟨List.nodup_nil,by simp,λx _=>by cases Maps.has D0 (pK x)<;>simp⟩
theorem Ip.step{D0:DataW Value}{left:Lit->Bool}{ss:List aX}(h:Ip D0 left ss){x:aX}(hx:GK x){y:DataW Value}(hlk:left (pK x)=true)(hat:∀zd,D0.atKey (pK x) zd=y):Ip D0 (λz=>left z&& !z.sameKey (pK x)) (ss++[x]):=by
 have hhas:Maps.has D0 (pK x)=true:=Maps.has_true_of_atKey hat;have hnew:x∉ss:=λhm=>by have:=((h.2.2 x hx).1 hm).2;rw[hlk]at this;cases this
 refine⟨List.nodup_append.2 ⟨h.1,by simp,λa ha b hb=>by simp at hb;subst hb;exactλe=>hnew (e▸ha)⟩,λy hy=>?_,λy hy=>?_⟩
 .rcases List.mem_append.1 hy with h1|h1
  .exact h.2.1 y h1
  .rw[List.mem_singleton.1 h1];exact hx
 .by_cases e:y=x
  .subst e
   simp[hhas,agU]
  .have hs:(pK y).sameKey (pK x)=false:=by
    cases hq:(pK y).sameKey (pK x)with
    |false=>rfl
    |true=>exact absurd (NZ _ _ hy hx (WideAt.sameKey_eq hq)) e
   simp[h.2.2 y hy,e,hs]
theorem Vr(b:Nat)(w:World):Calls prog 96 #[.map (some b)] w (λe w'=>e= .returned (.func (.func 139) #[] #[.pointer (some ⟨w.heap.size,0,none⟩)])/\w'=w.alloc (.cells #[.map (some b)] 161)):=by
 go_enter func96,ntmps96;go_wp2;go_ret;exact⟨rfl,rfl⟩
def OU(mb b:Nat)(V V':World):Prop:=V.heap.size<=V'.heap.size/\∀k o,(k=mb\/b<=k)->V.heap[k]?=some o->o.isCells=false->V'.heap[k]?=some o
theorem EF{K:TypeId}{R:Value->Option (DataW Value×List MemPlace)}{w w':World}{b r n:Nat}{D:DataW Value}{left:Lit->Bool}{cnt:Nat}(h:w.ranges prog K R b r n D left cnt)(hk:OU b r w w'):w'.ranges prog K R b r n D left cnt:=by
 obtain⟨es,clock,since,seen,c0,hb,F,hs,hD,hr,rest⟩:=h;exact⟨es,clock,since,seen,c0,hk.2 b _ (.inl rfl) hb rfl,F,hs,hD,hk.2 r _ (.inr (Nat.le_refl _)) hr rfl,rest⟩
theorem OV{S:Nat->Prop}{V V':World}{r:Nat}(h:V.grownBy V' (some r))(hr:S r)(ho:∃o:Obj,V.heap[r]?=some o/\o.isCells=false):gB S V V':=
 ⟨h.os,h.tape,h.output,h.size,λk hk hn=>h.block k hk (λe=>by injection e with e;exact hn (by subst e;exact⟨hr,ho⟩))⟩
theorem Ru{Bm mb nn:Nat}{D0:DataW Value}(n:Nat)(hn:1<=n)(I:Nat->List aX->World->Prop)(W:World)(hm:W.cell? ⟨Bm,0,none⟩=some (.map (some mb)))(hown:W.ownsMap prog 78 RM mb nn D0):
 X6 Fence.wide n prog 139 #[.pointer (some ⟨Bm,0,none⟩)] (λ(_:Nat)(x:aX)=>#[mkB x]) (λb V V'=>gB (λk=>b<=k) V V') (OU mb) I (λ_ pre _ _=>pre.length<Maps.size D0) (λ_ _ _ _=>False) (λxs=>xs.length<=Maps.size D0/\xs.Nodup/\(∀x∈xs,GK x)/\∀x,GK x->(x∈xs↔Maps.has D0 (pK x)=true)) (λ_=>False) W:=by
 intro l J JL WC hJ0 hJM _ hY _;have Qg:=Lib.hid hJ0;clear hJ0;have HJM:=Lib.hid hJM;clear hJM;have HY:=Lib.hid hY;clear hY;clear WC;refine callsIn_of_wp func139 rfl trivial ?_ rfl;simp only[ntmps139,List.size_toArray,List.length_cons,List.length_nil,Nat.reduceAdd,Nat.reduceSub,Array.replicate_succ,Array.replicate_zero,List.push_toArray,List.append_toArray,List.nil_append,List.cons_append];gi_wp2_with (gi_at_range;refine wpListIn_range_own _ rfl _ 161 rfl 78 4 aak underlying161 _ mb nn _ rfl hown ?_;intro w0 hrg0 hg0 hs0);have hb0:Below W.heap.size W w0:=⟨hg0.os,hg0.tape,hg0.output,hg0.size,λk hk=>hg0.block k hk (λe=>by cases e)⟩;have HJS:=Lib.hid (Qg.out W.heap.size w0 hb0 (Nat.le_refl _));have agV:=Lib.hid hrg0;clear hrg0;have HOWN:=Lib.hid hown;clear hown;clear hg0 hs0 hb0 Qg
 gi_loopw [3] (λ_ wr=>∃(left:Lit->Bool)(cnt:Nat)(ss:List aX),Hid (wr.ranges prog 78 RM mb W.heap.size nn D0 left cnt)/\Hid (Ip D0 left ss)/\ss.length+cnt<=Maps.size D0/\Hid (J W.heap.size ss wr))
  (λ_ wr=>wr.rangeLeft mb W.heap.size)
 case atStart=>exact⟨_,_,[],agV,Ip.start D0,by simp,HJS⟩
 case round=>
  obtain⟨left,cnt,ss,hrg,hC,hcs,hJs⟩:=hrel;clear agV HJS;gi_wp2_with (gi_at_next;refine wpListIn_next_ranges _ rfl _ rfl 78 aak RM mkB id (λkey kl hk=>by obtain⟨x,hx,_⟩:=TU hk;exact⟨x,hx⟩) (λv _ _=>⟨v,rfl⟩) mb W.heap.size nn _ _ _ rfl hrg.out ?_ ?_)
  .intro hc0 hl0
   have acM:Hid (ss.length<=Maps.size D0/\ss.Nodup/\(∀x∈ss,GK x)/\∀x,GK x->(x∈ss↔Maps.has D0 (pK x)=true)):=⟨by omega,hC.out.1,hC.out.2.1,λx hx=>by rw[hC.out.2.2 x hx,hl0];simp⟩;clear hl0;gi_wp2
   go_end0
   exact⟨⟨_,rfl⟩,W.heap.size,Nat.le_refl _,.inl ⟨ss,acM.out,hJs.out⟩⟩
  .intro x c kl yd yp w2 cnt2 hkey hlk hv hat hrg2 hlt hg2 hs2 hen
   obtain⟨x',ex,rfl,hx⟩:=TU hkey;obtain rfl:x=x':=by
    obtain⟨a,b⟩:=x;obtain⟨c,d⟩:=x';simp only[mkB,Value.agg.injEq,Array.mk.injEq,List.cons.injEq,Value.int.injEq,true_and,and_true]at ex;rw[ex.1,ex.2]
   have Jo:=Lib.hid (hC.out.step hx hlk hat);have akT:=Lib.hid hrg2;clear hrg2;have hob:∃o:Obj,wr.heap[W.heap.size]?=some o/\o.isCells=false:=by
    obtain⟨o,ho,hw⟩:=hrg.out.iter_walk;exact⟨o,ho,Obj.not_cells_of_walk hw⟩
   have HT2:Hid (gB (λk=>W.heap.size<=k) wr w2):=OV hg2 (Nat.le_refl _) hob;have hlen:ss.length<Maps.size D0:=by omega
   have WE:Hid (wr.rangeLeft mb W.heap.size=cnt):=hrg.out.left_eq;clear hC hkey hlk hv hat hg2 hs2 hob;obtain⟨xr,xn⟩:=x;simp only[mkB]at hen
   gi_upto_region 3 with(fail)
   generalize hWa:World.alloc _ _=Wa;obtain⟨hba,hxa⟩:=bx1' hWa;have q0:Wa.cell? ⟨w2.heap.size,0,none⟩=some (.int .i64 xr):=(cell_of_row Wa _ 0 _ _ _ hxa).trans rfl;have q1:Wa.cell? ⟨w2.heap.size,1,none⟩=some (.int .i64 xn):=(cell_of_row Wa _ 1 _ _ _ hxa).trans rfl;have hJ2:J W.heap.size ss Wa:=HJM.out _ _ _ _ hJs.out (HT2.out.trans (gB.of_below hba));have akU:Hid (Wa.ranges prog 78 RM mb W.heap.size nn D0 (λz=>left z&& !z.sameKey (pK ⟨xr,xn⟩)) cnt2):=EF akT.out ⟨hba.size,λk o _ hk _=>(hba.block k (aB hk)).trans hk⟩;obtain⟨fn,tmps,assign,body,hy,hR⟩:=HY.out _ ss ⟨xr,xn⟩ Wa hJ2 hlen;simp only[mkB]at hy;clear hWa hba hxa hen hJ2;gi_wp2;refine hR.mono ?_;rintro e W3 ⟨rfl,hJ3,hk3⟩;have agW:=Lib.hid (EF akU.out hk3);have HJ3:=Lib.hid hJ3;clear hJ3 hk3 hR hy q0 q1;gi_wp2
   go_roundw
   case rel=>exact⟨_,cnt2,ss++[⟨xr,xn⟩],agW,Jo,by rw[List.length_append,List.length_singleton];omega,HJ3⟩
   case measure=>rw[agW.out.left_eq,WE.out];exact hlt
end
open Go.RowKit Go.Maps Go.Sort Go.Shelf Tryz
attribute [local go_sem] Oper.semAt_some
theorem qZ{S:Nat->Prop}{w w':World}{B:Nat}{e:TypeId}{size n:Nat}{v:Value}{xs:List Value}(h:w.ownsRow B e size v n xs)(ht:gB S w w'):w'.ownsRow B e size v n xs:=by
 refine⟨h.1,?_⟩;rcases h.2 with h0|⟨g,cap,cur,hv,hB,hg,r⟩
 .exact .inl h0
 .exact .inr ⟨g,cap,cur,hv,hB,ht.cells hg,r⟩
theorem dF{w w':World}{B:Nat}{e:TypeId}{size n:Nat}{v:Value}{xs:List Value}(h:w.ownsRow B e size v n xs)(hb:Below w.heap.size w w'):w'.ownsRow B e size v n xs:=by
 refine⟨h.1,?_⟩;rcases h.2 with h0|⟨g,cap,cur,hv,hB,hg,r⟩
 .exact .inl h0
 .exact .inr ⟨g,cap,cur,hv,hB,(hb.block g (aB hg)).trans hg,r⟩
theorem yP{w:World}{B:Nat}{e:TypeId}{size n:Nat}{v:Value}{xs:List Value}(h:w.ownsRow B e size v n xs){p:Addr}(hp:v.ownBlock≠some p.block)(u:Value):(w.setCell p u).ownsRow B e size v n xs:=by
 refine⟨h.1,?_⟩;rcases h.2 with h0|⟨g,cap,cur,rfl,hB,hg,r⟩
 .exact .inl h0
 .refine .inr ⟨g,cap,cur,rfl,hB,?_,r⟩
  rw[Below.heap_setCell _ _ _ g (λe=>hp (by rw[e];rfl))];exact hg
theorem Iq{S:Nat->Prop}{w V V':World}(h:Below w.heap.size w V)(ht:gB S V V')(hS:∀k,S k->w.heap.size<=k):Below w.heap.size w V':=h.trans (aG.below ht h.size (λk hk=>hS k hk.1))
theorem cO{w:World}{B:Nat}{e:TypeId}{size n:Nat}{v:Value}{xs:List Value}(h:w.ownsRow B e size v n xs){k:Nat}{cs:Array Value}{t:TypeId}{fz:Nat×Nat}(hk:w.heap[k]?=some (.cells cs t fz))(hne:t≠e):v.ownBlock≠some k:=λe'=>by
 rcases h.2 with⟨rfl,_⟩|⟨g,cap,cur,rfl,_,h3,_⟩
 .cases e'
 .simp only[Value.ownBlock,Option.some.injEq]at e'
  subst e';rw[hk]at h3;injection h3 with h3
  injection h3 with _ h3 _
  exact hne h3
theorem qJ{F:Fence}{nf:Nat}{P:Program}{W:World}{ops:Array Oper}{rest:List Oper}{o:Oper}{a:Act}{Q:Exit->Act->World->Prop}
 (hg:o.guard=none)(s x:Operand)(T:TypeId)(hop:o.op=Op.call {callee:=Callee.builtin Builtin.append,args:=#[s,x],argTypes:=#[T,T]})
 (e:TypeId)(i:TypeInfo)(z:Value)(size bytes:Nat)(ht:P.underlying T=some (.slice e))(hi:P.info? e=some i)(hz:i.zero=some z)(hsize:i.size=size)(hby:i.bytes=bytes)(hzs:z.cells.size=size)(h0:0<size)
 (B:Nat)(v:Value)(n:Nat)(xs:List Value)(hs:a.eval s=v)(hown:W.ownsRow B e size v n xs)(cs:List Value)(arr:Array Value)(harr:arr=cs.toArray)(hcs:cs.length=size)(h1:∀u∈cs,u.oneCell'=true)
 (hx:a.eval x= .slice (some ⟨W.heap.size,0,none⟩) 1 1)(hlen:n+1<=maxLen)(hb:(n+1)*bytes<=140737488355328)(hBW:B<=W.heap.size)
 (hK:∀g' c' w',w'.ownsRow B e size (.slice (some ⟨g',0,none⟩) (n+1) c') (n+1) (xs++cs)->(W.alloc (.cells arr e)).grownBy w' v.ownBlock->wpListIn F nf P ops Q rest (a.put o.dst (.slice (some ⟨g',0,none⟩) (n+1) c')) w'):
 wpListIn F nf P ops Q (o::rest) a (W.alloc (.cells arr e)):=by
 subst harr;refine wpListIn_append_own _ hg s x T hop B e i z size bytes ht hi hz hsize hby hzs h0 v n xs hs (World.ownsRow.alloc hown _) ⟨W.heap.size,0,none⟩ 1 1 cs hx (by omega)
  (λj u hj=>by
   rw[Addr.add_lit,cell_of_row _ _ (0+j) _ _ _ (heap_alloc_new W _)];simpa using hj) h1 hlen hb (by simp;omega) ?_
 intro v' w' hown' hgrow hnil;rcases hown'.2 with⟨e,_⟩|⟨g,cap,cur,rfl,_⟩
 .have:=(hnil.1 e).2;omega
 .exact hK g cap w' hown' hgrow
theorem ownsRow_form{w:World}{B:Nat}{e:TypeId}{size n:Nat}{v:Value}{xs:List Value}(h:w.ownsRow B e size v n xs):∃A c,v= .slice A n c:=by
 rcases h.2 with⟨rfl,rfl,_⟩|⟨g,cap,cur,rfl,_⟩
 .exact⟨_,_,rfl⟩
 .exact⟨_,_,rfl⟩
theorem q8(l:List aX):(eT l).length=l.length*2:=gW aX.cells 2 (λ_=>rfl) l
theorem Co(F:List aX):∀u∈eT F,u.oneCell'=true:=by
 intro u hu;obtain⟨x,_,hx⟩:=List.mem_flatMap.1 hu;simp only[aX.cells,List.mem_cons,List.not_mem_nil,or_false]at hx;rcases hx with rfl|rfl<;>rfl
def YH(D0:DataW Value)(w:World)(e:Ending)(w':World):Prop:=
 ∃(T:List aX)(v:Value),e= .returned v/\w'.ownsRow w.heap.size 78 2 v T.length (eT T)/\Below w.heap.size w w'/\T.length<=Maps.size D0/\T.Nodup/\(∀x∈T,GK x)/\∀x,GK x->(x∈T↔Maps.has D0 (pK x)=true)
structure Mt(w:World)(Bs:Nat)(pre:List aX)(V:World):Prop where
 box:∃v,V.heap[Bs]?=some (.cells #[v] 29 (0,0))/\V.ownsRow w.heap.size 78 2 v pre.length (eT pre)
 below:Below w.heap.size w V
theorem Mt.turn{w:World}{Bs:Nat}{pre:List aX}{V V':World}{S:Nat->Prop}(h:Mt w Bs pre V)(ht:gB S V V')(hS:∀k,S k->w.heap.size<=k):Mt w Bs pre V':=by
 obtain⟨⟨v,h1,h2⟩,h3⟩:=h;exact⟨⟨v,ht.cells h1,qZ h2 ht⟩,Iq h3 ht hS⟩
theorem Rv{mb b D:Nat}{V V1 Y1 Y:World}(hmb:mb≠D+1)(hb:D+2<=b)(h1:uT D V V1)(hk:OU mb b V1 Y1)(h2:uT D Y1 Y):OU mb b V Y:=by
 refine⟨Nat.le_trans h1.size (Nat.le_trans hk.1 h2.size),λk o hko ho hc=>?_⟩;have hk1:k≠D+1:=by omega
 have e1:V1.heap[k]?=some o:=by rw[h1.same (λh=>hk1 h) (aB ho)];exact ho
 have e2:=hk.2 k o hko e1 hc;rw[h2.same (λh=>hk1 h) (aB e2)];exact e2
theorem Vs{mb b:Nat}{V V':World}{S:Nat->Prop}(hu:aG S V V')(hS:∀k o,S k->V.heap[k]?=some o->o.isCells=true):OU mb b V V':=
 ⟨hu.size,λk o _ hk ho=>hu.keep hk (λhs=>by have:=hS k o hs hk;rw[ho]at this;cases this)⟩
theorem Ir{Bm mb nn:Nat}{D0:DataW Value}(w:World)(hm:w.cell? ⟨Bm,0,none⟩=some (.map (some mb)))(hown:w.ownsMap prog 78 RM mb nn D0)(hsz:Maps.size D0<=1000000):
 Calls prog 161 #[.slice none 0 0,.func (.func 139) #[] #[.pointer (some ⟨Bm,0,none⟩)]] w (YH D0 w):=by
 have hml:=hown.lt;have hBm:=World.block_lt_of_cell? w ⟨Bm,0,none⟩ hm;simp only at hBm;have HM:=Lib.hid hm;clear hm;have HOWN:=Lib.hid hown;clear hown;refine(callsIn_wide (n:=4)).1 ?_;refine callsIn_of_wp_marks func161 rfl trivial ?_ rfl;simp only[ntmps161,List.size_toArray,List.length_cons,List.length_nil,Nat.reduceAdd,Nat.reduceSub,Array.replicate_succ,Array.replicate_zero,List.push_toArray,List.append_toArray,List.nil_append,List.cons_append]
 gi_upto_region 1 with(fail)
 generalize hW0:World.alloc _ _=W0;obtain⟨HB,hh0⟩:=bx1 hW0;have zD:Hid (W0.heap[w.heap.size]?=some (.cells #[.slice none 0 0] 29 (0,0))):=hh0;have hs0:w.heap.size<W0.heap.size:=aB hh0;clear hW0 hh0;gi_wp2;obtain⟨ib,hbi,hbz,hbs,hbb⟩:=info_parts' (P:=prog) (t:=78) (z:=some (.agg #[.int .i64 0,.int .i64 0])) (s:=2) (b:=16) (by kernel_rfl);refine nN (α:=aX) rfl (by omega) (gf:=139) rfl trivial (enters_of func139 (by kernel_rfl) rfl)
  (λW1 h1 _=>Ru (Bm:=Bm) (mb:=mb) (nn:=nn) (D0:=D0) _ (by omega)
   (λ_ pre V=>Mt w w.heap.size pre V) W1 (((HB.out.trans (h1.mono HB.out.size)).cell (p:=⟨Bm,0,none⟩) hBm).trans HM.out) (by
    have hb:=HB.out.trans (h1.mono HB.out.size);obtain⟨es,clock,h2,h3⟩:=HOWN.out;exact⟨es,clock,(hb.block mb hml).trans h2,h3⟩)) (λ_ _=>rfl)
  (λ_ _ _=>True) (λ_ _ _ _ h ht=>h.turn ht (λk hk=>by omega)) (λ_ _ _ _ h _=>h) (λ_ _ _ _ _ h _=>h) (λ_ _ _ _ _ h _=>h) (λ_ _ _ _ _ hb h1 hk h2=>Rv (by omega) hb h1 hk h2)
  (λ_ _ _ _ _ hb hm hk1 hk2 ho hc=>by rw[hm.same (λh=>by omega) (aB ho)];exact ho) (λ_ _ _ _ hb h hm=>h.turn hm (λk hk=>by omega)) (λ_ _ _ _ _ h _=>h)
  (λx=>[.cells #[.int .i64 x.ref,.int .i64 x.next] 78]) (λ_ V hV _=>⟨⟨_,(hV.block _ hs0).trans zD.out,World.ownsRow_nil _ _ _ _⟩,HB.out.trans (hV.mono HB.out.size)⟩) ?a1 ?assign ?body (λ_ _ _ _ _ _ _ _ h=>h.elim) ?done (λ_ _ _ _ _ _ h=>h.elim)
 case assign=>
  intro l b x W k K hk hK;simp only[mkB];gi_wp2;try rw[hk]
  exact hK
 case body=>
  as_aux_lemma=>
   rintro l b0 pre ⟨xr,xn⟩ W k hb hI hlen hk hbx;have hq:=hbx 0 _ rfl;rw[Nat.add_zero]at hq;simp only at hq;have q0:W.cell? ⟨k,0,none⟩=some (.int .i64 xr):=(cell_of_row W _ 0 _ _ _ hq).trans rfl;have q1:W.cell? ⟨k,1,none⟩=some (.int .i64 xn):=(cell_of_row W _ 1 _ _ _ hq).trans rfl;obtain⟨⟨v,hv,hrow⟩,hbw⟩:=hI;obtain⟨vA,vc,rfl⟩:=ownsRow_form hrow;have b0':W.cell? ⟨w.heap.size,0,none⟩=some (.slice vA pre.length vc):=(cell_of_row W _ 0 _ _ _ hv).trans rfl;have HV:=Lib.hid hv;clear hv;have mW:=Lib.hid hrow;clear hrow;have vE:=Lib.hid hbw;clear hbw;clear hq hbx;have hsW:=vE.out.size;gi_wp2_with (gi_at_builtin;refine qJ rfl _ _ 29 rfl 78 ib (.agg #[.int .i64 0,.int .i64 0]) 2 16 underlying29 hbi hbz hbs hbb rfl (by decide) w.heap.size _ pre.length _ rfl mW.out [.int .i64 xr,.int .i64 xn] _ rfl rfl (by intro u hu;simp only[List.mem_cons,List.not_mem_nil,or_false]at hu;rcases hu with rfl|rfl<;>rfl) rfl (by unfold maxLen;omega) (by omega) (by omega) ?_;intro g6 c6 w6 h1 h2;refine Hid.out ?_);refine Lib.hid ?_;have HBN:Hid ((Value.slice vA pre.length vc).ownBlock≠some w.heap.size):=cO mW.out HV.out (by decide);have hlW:w.heap.size<W.heap.size:=aB HV.out;have TW:Hid (w6.heap[w.heap.size]?=some (.cells #[.slice vA pre.length vc] 29 (0,0))):=by
    show _=_;rw[h2.block _ (by rw[World.size_alloc];omega) (λe=>HBN.out e.symm)];exact(Below.heap_alloc _ _ _ hlW).trans HV.out
   have FN:Hid (w6.ownsRow w.heap.size 78 2 (.slice (some ⟨g6,0,none⟩) (pre.length+1) c6) (pre++[(⟨xr,xn⟩:aX)]).length (eT (pre++[(⟨xr,xn⟩:aX)]))):=by
    show World.ownsRow _ _ _ _ _ _ _;rw[List.length_append,List.length_singleton];have e:eT (pre++[(⟨xr,xn⟩:aX)])=eT pre++[.int .i64 xr,.int .i64 xn]:=by unfold eT;rw[List.flatMap_append];rfl
    rw[e];exact h1
   have akV:Hid ((Value.slice (some ⟨g6,0,none⟩) (pre.length+1) c6).ownBlock≠some w.heap.size):=cO FN.out TW.out (by decide);have vS:Hid (aG (λk=>(Value.slice vA pre.length vc).ownBlock=some k\/k=w.heap.size) W w6):=by
    refine aG.trans ((aG.refl _ W).alloc _) (aG.jK h2) (λi _ h=>.inl h)
   have b6:w6.cell? ⟨w.heap.size,0,none⟩=some (.slice vA pre.length vc):=(cell_of_row w6 _ 0 _ _ _ TW.out).trans rfl;have f6:w6.frozen? ⟨w.heap.size,0,none⟩=false:=by simp[World.frozen?,TW.out]
   clear h1 h2 b0' q0 q1;gi_wp2;have hu:aG (λk=>(Value.slice vA pre.length vc).ownBlock=some k\/k=w.heap.size) W (w6.setCell ⟨w.heap.size,0,none⟩ (.slice (some ⟨g6,0,none⟩) (pre.length+1) c6)):=vS.out.setCell (.inl (.inr rfl)) _;refine⟨oZ _ hu ?hc,Vs hu ?hc,⟨_,?_,yP FN.out akV.out _⟩,vE.out.trans (hu.below hsW (λk hk=>?_))⟩
   case hc=>
    rintro k o (e|rfl) ho
    .rcases mW.out.2 with⟨he,_⟩|⟨g,cap,cur,he,_,hg,_⟩
     .rw[he]at e;cases e
     .rw[he]at e
      simp only[Value.ownBlock,Option.some.injEq]at e;subst e;rw[hg]at ho;cases ho
      rfl
    .rw[HV.out]at ho
     cases ho
     rfl
   .have h:=heap_setCell_same (i:=0) TW.out (.slice (some ⟨g6,0,none⟩) (pre.length+1) c6)
    exact h
   .rcases hk with e|rfl
    .exact(mW.out.lt k e).1
    .exact Nat.le_refl _
 case done=>
  rintro D b0 xs W hD hb ⟨hS0,hS1,hS2,hS3⟩ ⟨⟨v,hv,hrow⟩,hbw⟩ hK;obtain⟨vA,vc,rfl⟩:=ownsRow_form hrow;have b0':W.cell? ⟨w.heap.size,0,none⟩=some (.slice vA xs.length vc):=(cell_of_row W _ 0 _ _ _ hv).trans rfl;have mW:=Lib.hid hrow;clear hrow;have vE:=Lib.hid hbw;clear hbw;have HK:=Lib.hid hK;clear hK;have H1:=Lib.hid hS1;clear hS1;have H2:=Lib.hid hS2;clear hS2;have H3:=Lib.hid hS3;clear hS3;clear hv;gi_wp2;refine⟨by simp,.inl ⟨_,_,rfl,run_takeDeferred HK.out,?_⟩⟩;have ht:=gB.putObj (S:=λk=>k=D) (.deferred none) rfl HK.out rfl;refine⟨.slice vA xs.length vc,by simp[results,results161,go_sem],⟨xs,_,rfl,qZ mW.out ht,Iq vE.out ht (λk hk=>by omega),hS0,H1.out,H2.out,H3.out⟩⟩
end Go.Proofs.YtpmdedcnbockhaaGreatDoor

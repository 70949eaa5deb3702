/-
  Set; Meet; Clo0; Clo1; Clo; MStart; Grow; Run0; Run
-/
import Derived.Maps.OwnIn
import Derived.Test.YtpmdedcnbockhaaGreatDoorP18
import Derived.Test.YtpmdedcnbockhaaGreatDoorP20
import Derived.Test.YtpmdedcnbockhaaGreatDoorP14
set_option maxRecDepth 100000
set_option maxHeartbeats 8000000
namespace Go.Proofs.YtpmdedcnbockhaaGreatDoor
section
open Go.RowKit Go.Shelf Go.Sort
def R1(v:Value):Option (DataW Value×List MemPlace):=some (.held v,[])
theorem Br:Maps.Keyed Tryz.prog 9:=Maps.string_keyed Tryz.underlying9
theorem aaS(w:World):(zeroValue 48).run Tryz.prog w= .ok gB w:=by kernel_rfl
theorem Qy{l:List UInt8}(hl:l.length<=maxLen):keyOf Tryz.prog 9 (.string ⟨l.toArray⟩)=some (.string l):=by
 have h:=WideMaps.keyOf_string_mk (P:=Tryz.prog) Tryz.underlying9 (s:=⟨l.toArray⟩) (by simpa [ByteArray.size]using hl);simpa using h
def gD(w:World)(k:Nat):Prop:=∃es c,w.heap[k]?=some (.map es c)
theorem Src.upd{S:Nat->Prop}{w w':World}{size m:Nat}{A:Option Addr}{news:List Value}(h:Src w size A m news)(hs:0<size)(hu:aH S w w')(hS:∀k,S k->gD w k):Src w' size A m news:=by
 refine⟨h.1,h.2.1,λhm=>?_⟩;obtain⟨b,off,rfl,hlt,hc⟩:=h.form hm hs;have hl:0<news.length:=by rw[h.1];exact Nat.mul_pos hm hs
 have hn:¬S b:=λhb=>by
  obtain⟨es,c,hb⟩:=hS b hb;have h0:=hc 0 (Nat.mul_pos hm hs);rw[aT hl]at h0;simp[World.cell?,hb]at h0
 refine⟨_,rfl,λj u hj=>?_⟩;have hjl:j<m*size:=by rw[<-h.1];exact(aZ.1 hj).1
 rw[Addr.add_lit,hu.cell hlt hn,hc j hjl,hj]
theorem At.upd{S:Nat->Prop}{w w':World}{size n c:Nat}{A:Option Addr}{xs:List Value}(h:At w size A n c xs)(hs:0<size)(hu:aH S w w')(hS:∀k,S k->gD w k):At w' size A n c xs:=⟨h.1.upd hs hu hS,h.2⟩
theorem aW.upd{S:Nat->Prop}{w w':World}{v:TV}{s:ak}(h:aW w v s)(hu:aH S w w')(hS:∀k,S k->gD w k):aW w' v s:=
 ⟨h.aj.upd (by omega) hu hS,h.used.upd (by omega) hu hS,h.marks.upd (by omega) hu hS⟩
def lI(B:Nat)(w:World)(b:Nat)(F:List ak):Prop:=
 ∃D:DataW Value,w.ownsMap Tryz.prog 9 R1 b (Maps.size D) D/\Maps.size D=F.length/\(F.map ak.text).Nodup/\
  (∀s∈F,∃t:TV,(∀z,D.atKey (.string s.text) z= .held (t.val s))/\aW w t s/\rC B t)/\(∀k,Maps.has D k=true->∃s∈F,k= .string s.text)
theorem Bt{w:World}{b n:Nat}{D:DataW Value}(h:w.ownsMap Tryz.prog 9 R1 b n D):w.ownsMap Tryz.prog 9 R1 b (Maps.size D) D:=by
 obtain⟨es,clock,hb,F,hs,rfl⟩:=h;exact⟨es,clock,hb,F,by simp[Maps.size,length_sorted],rfl⟩
theorem lI.blk{B:Nat}{w:World}{b:Nat}{F:List ak}(h:lI B w b F):gD w b:=by
 obtain⟨D,⟨es,c,hb,_⟩,_⟩:=h;exact⟨es,c,hb⟩
theorem lI.upd{B:Nat}{S:Nat->Prop}{w w':World}{b:Nat}{F:List ak}(h:lI B w b F)(hu:aH S w w')(hb:¬S b)(hS:∀k,S k->gD w k):lI B w' b F:=by
 obtain⟨D,⟨es,clock,h1,h2,h3,h4⟩,h5,h6,h7,h8⟩:=h;refine⟨D,⟨es,clock,hu.keep h1 hb,h2,h3,h4⟩,h5,h6,λs hs=>?_,h8⟩;obtain⟨t,ht,hst,hnt⟩:=h7 s hs;exact⟨t,ht,hst.upd hu hS,hnt⟩
theorem lI.below{B:Nat}{w w':World}{b:Nat}{F:List ak}(h:lI B w b F)(hb:Below w.heap.size w w'):lI B w' b F:=by
 obtain⟨es,c,hm⟩:=h.blk;refine lI.upd (B:=B) (S:=λ_=>False) h ?_ (λh=>h) (λ_ h=>h.elim);exact(aH.of_below hb).mono (λi hi hle=>by omega)
theorem zB{w w':World}{b:Nat}(h:w.mapTurned w' b):aH (λk=>k=b) w w'/\gD w' b:=by
 obtain⟨es,c,es',c',h1,rfl⟩:=h;refine⟨?_,es',c',?_⟩
 .have hg:=World.mapTurned.grown (w:=w) (b:=b) ⟨es,c,es',c',h1,rfl⟩
  exact⟨hg.os,hg.tape,hg.output,hg.size,λk hk hn=>hg.block k hk (by simpa using hn)⟩
 .simp[ChangeMaps.setBlock,av h1]
theorem lI.len{B:Nat}{w:World}{b:Nat}{F:List ak}(h:lI B w b F)(ty:TypeId):(Builtin.len_ #[142] ty #[.map (some b)]).run Tryz.prog w= .ok (.int .i64 (F.length:Nat)) w:=by
 obtain⟨D,h1,h2,_⟩:=h;rw[<-h2];exact h1.len (e:=48) Tryz.underlying142 ty
theorem Qz{v:Value}{d:DataW Value}{ps:List MemPlace}(h:R1 v=some (d,ps)):d= .held v:=by
 simp only[R1,Option.some.injEq,Prod.mk.injEq]at h;exact h.1.symm
def stV(d:Int)(a1:Option Addr)(n1 c1:Nat)(a2:Option Addr)(n2 c2:Nat)(a3:Option Addr)(n3 c3:Nat):Value:=.agg #[.int .i64 d,.slice a1 n1 c1,.slice a2 n2 c2,.slice a3 n3 c3]
theorem lI.KO{B:Nat}{w:World}{b:Nat}{F:List ak}(h:lI B w b F){tx:List UInt8}(hl:tx.length<=maxLen):
 ∃d a1 n1 c1 a2 n2 c2 a3 n3 c3,(Instr.lookup 142 (.map (some b)) (.string ⟨tx.toArray⟩) true).run Tryz.prog w= .ok (.tuple #[stV d a1 n1 c1 a2 n2 c2 a3 n3 c3,.bool (decide (tx∈F.map ak.text))]) w:=by
 obtain⟨D,h1,h2,h3,h4,h5⟩:=h;obtain⟨v,ps,hrun,hv⟩:=h1.look_ok (t:=142) (e:=48) Br Tryz.underlying142 (aaS w) (zd:=.held gB) (zp:=[]) rfl (Qy hl);have h6:=Qz hv;by_cases hm:tx∈F.map ak.text
 .obtain⟨s,hs,rfl⟩:=dU.1 hm
  obtain⟨t,ht,hst⟩:=h4 s hs;rw[ht]at h6;injection h6 with h6
  subst h6;rw[Maps.has_true_of_atKey ht]at hrun;refine⟨s.day,t.h.A,s.aj.length,t.h.c,t.u.A,s.used.length,t.u.c,t.m.A,s.marks.length,t.m.c,?_⟩;rw[decide_eq_true hm];exact hrun
 .have hnot:Maps.has D (.string tx)=false:=by
   cases hh:Maps.has D (.string tx)with
   |false=>rfl
   |true=>
    obtain⟨s',hs',e⟩:=h5 _ hh;exact absurd (dU.2 ⟨s',hs',(Lit.string.inj e).symm⟩) hm
  rw[Maps.atKey_of_not_has hnot]at h6;injection h6 with h6
  subst h6;rw[hnot]at hrun;refine⟨0,none,0,0,none,0,0,none,0,0,?_⟩;rw[decide_eq_false hm];exact hrun
theorem GU{α:Type}[BEq α][LawfulBEq α]:∀{l1 l2:List α},l1.Nodup->l2.Nodup->(∀x,x∈l1↔x∈l2)->l1.Perm l2
 |[],l2,_,_,h=>by
  cases l2 with
  |nil=>exact List.Perm.nil
  |cons a l=>exact absurd ((h a).2 (by simp)) (by simp)
 |a::l1,l2,h1,h2,h=>by
  rw[List.nodup_cons]at h1;have ha:a∈l2:=(h a).1 (by simp);refine List.Perm.trans (List.Perm.cons a (GU h1.2 (h2.erase a) (λx=>?_))) (List.perm_cons_erase ha).symm;rw[List.Nodup.mem_erase_iff h2];constructor
  .intro hx
   exact⟨λe=>h1.1 (e▸hx),(h x).1 (kT _ hx)⟩
  .rintro⟨hne,hx⟩
   rcases d_.1 ((h x).2 hx)with e|e
   .exact absurd e hne
   .exact e
theorem lI.keys{B:Nat}{w:World}{b:Nat}{F:List ak}(h:lI B w b F):∃D:DataW Value,w.ownsMap Tryz.prog 9 R1 b (Maps.size D) D/\Maps.size D=F.length/\(strKeys D).Perm (F.map ak.text):=by
 obtain⟨D,h1,h2,h3,h4,h5⟩:=h;refine⟨D,h1,h2,?_⟩;obtain⟨es,rfl,hap⟩:=h1.tidy Br;have hkeys:∀p∈es,∃s∈F,p.1= .string s.text:=λp hp=>by
  have hlit:WideAt.IsKeyLit p.1:=by
   obtain⟨es',c,_,Ft,_,he⟩:=h1;injection he with he
   rw[he]at hp;obtain⟨v,hv⟩:=Maps.fit_keys Ft p ((WideShapes.sorted_perm _).mem_iff.1 hp);exact Br.key hv
  have hh:Maps.has (DataW.map es) p.1=true:=by
   rw[Maps.has_eq,List.any_eq_true];exact⟨p,hp,WideAt.sameKey_self hlit⟩
  obtain⟨s,hs,e⟩:=h5 _ hh;exact⟨s,hs,e⟩
 refine GU ?_ h3 (λx=>?_)
 .show(es.map λp=>strOf p.1).Nodup
  rw[List.Nodup,List.pairwise_map];refine List.Pairwise.imp_of_mem ?_ hap;intro p q hp hq hne e;obtain⟨s,_,hs⟩:=hkeys p hp;obtain⟨s',_,hs'⟩:=hkeys q hq;rw[hs,hs']at e hne;simp only[strOf]at e;exact hne (by rw[e])
 .show x∈es.map (λp=>strOf p.1)↔_
  constructor
  .intro hx
   obtain⟨p,hp,rfl⟩:=dU.1 hx;obtain⟨s,hs,e⟩:=hkeys p hp;rw[e];exact dU.2 ⟨s,hs,rfl⟩
  .intro hx
   obtain⟨s,hs,rfl⟩:=dU.1 hx;obtain⟨t,ht,_⟩:=h4 s hs;have hh:=Maps.has_true_of_atKey ht;rw[Maps.has_eq,List.any_eq_true]at hh;obtain⟨p,hp,hsame⟩:=hh;exact dU.2 ⟨p,hp,by rw[WideAt.sameKey_eq hsame];rfl⟩
end
section
open Go.RowKit Go.Shelf
attribute [local go_sem] P9 stillUpon mh
theorem Tab.upd{S:Nat->Prop}{w w':World}(h:Tab w)(hu:aH S w w')(hS:∀k,S k->gD w k):Tab w':=by
 unfold Tab Lib.TabIs World.var? at*;cases hg:Tryz.prog.globalNamed "internal/strconv.uint64pow10" with
 |none=>simp[hg]at h
 |some g=>
  simp only[hg,Option.bind_some]at h⊢;have hlt:g<w.heap.size:=by
   rcases iA g w.heap.size with h'|h'
   .exact h'
   .rw[Array.getElem?_eq_none h']at h;simp at h
  have hn:¬S g:=λhs=>by
   obtain⟨es,c,hb⟩:=hS g hs;rw[hb]at h;simp at h
  rw[hu.block g hlt hn];exact h
theorem QA{s:ak}(h:CK s):s.text.length<=200000:=by
 have h1:=lN h.day;have h2:=GK h.aj;have h3:=Ny h.marks;have h4:=h.lh;have h5:=h.lu;have h6:=h.lm;simp only[ak.text,lS,vN];have h7:(tQ s.used).length=s.used.length:=by simp[tQ]
 omega
theorem NH{s:ak}(h:CK s):s.text.length<=maxLen:=bF (QA h) (by unfold maxLen;omega)
def rV(F:List ak)(s:ak):List ak:=cond (decide (s.text∈F.map ak.text)) F (F++[s])
end
section
open Go.RowKit
theorem xK{C:au}{s:ak}{i:Nat}{a:iO}(ha:C.acts[i]?=some a):C.next s i=C.act i a s:=by
 have h:((i:Int)== -1)=false:=by simp
 simp only[au.next,h,cond_false,su,ha]
theorem D8{C:au}{s:ak}(hO:bJ C s)(hd:s.day<C.days){i:Nat}(hi:i<C.acts.length):C.bT s i=0:=by
 have h1:C.fC s=true:=(iC C s).2 hO;have h2:decide ((i:Int)< -1)=false:=by simp
 have h3:decide ((C.acts.length:Int)<=(i:Int))=false:=by simp;omega
 have h4:(s.day==C.days)=false:=by simp;omega
 simp only[au.bT,h1,h2,h3,h4,Bool.not_true,cond_false]
theorem rD{F:List ak}{s x:ak}:x∈rV F s↔x∈F\/x=s:=by
 unfold rV;by_cases h:s∈F
 .rw[decide_eq_true (Bp.2 h),cond_true]
  constructor
  .exact .inl
  .rintro(hx|rfl)
   .exact hx
   .exact h
 .rw[decide_eq_false (λhm=>h (Bp.1 hm)),cond_false,jZ,dZ]
theorem bU.upd{S:Nat->Prop}{w w':World}{v:CV}{C:au}(h:bU w v C)(hu:aH S w w')(hS:∀k,S k->gD w k):bU w' v C:=by
 refine⟨h.aj.upd (by omega) hu hS,h.units.upd (by omega) hu hS,h.acts.upd (by omega) hu hS,?_,h.off.upd (by omega) hu hS⟩;obtain⟨ss,h1,h2,h3⟩:=h.clauses;exact⟨ss,h1,h2.upd (by omega) hu hS,λi k t hk ht=>(h3 i k t hk ht).upd (by omega) hu hS⟩
theorem jL.upd{S:Nat->Prop}{w w':World}{v:SV}{l:List ak}(h:jL w v l)(hu:aH S w w')(hS:∀k,S k->gD w k):jL w' v l:=by
 obtain⟨ts,h1,h2,h3⟩:=h;exact⟨ts,h1,h2.upd (by omega) hu hS,λi s t hs ht=>(h3 i s t hs ht).upd hu hS⟩
theorem aH.D9{S:Nat->Prop}{w w':World}(hu:aH S w w')(hS:∀k,S k->gD w k){p o:Nat}{u:Value}(h:w.cell? ⟨p,o,none⟩=some u):w'.cell? ⟨p,o,none⟩=some u:=by
 have hl:=World.block_lt_of_cell? w _ h;have hn:¬S p:=λhs=>by
  obtain⟨es,c,hb⟩:=hS p hs;simp[World.cell?,hb]at h
 exact(hu.cell hl hn).trans h
end
section
open Go.RowKit Go.Shelf Go.Sort
def dD(B:Nat)(w:World)(v:SV)(l:List ak):Prop:=
 vT B v/\∃ts:List TV,ts.length=l.length/\At w 4 v.A l.length v.c ((l.zip ts).flatMap (λp=>TV.cells p.2 p.1))/\∀(i:Nat)(s:ak)(t:TV),l[i]?=some s->ts[i]?=some t->aW w t s/\rC B t
theorem dD.at{B:Nat}{w:World}{v:SV}{l:List ak}(h:dD B w v l):jL w v l:=by
 obtain⟨_,ts,h1,h2,h3⟩:=h;exact⟨ts,h1,h2,λi s t hs ht=>(h3 i s t hs ht).1⟩
theorem dD.mono{B B':Nat}{w:World}{v:SV}{l:List ak}(h:dD B w v l)(hB:B'<=B):dD B' w v l:=by
 obtain⟨h0,ts,h1,h2,h3⟩:=h;exact⟨h0.mono hB,ts,h1,h2,λi s t hs ht=>⟨(h3 i s t hs ht).1,(h3 i s t hs ht).2.mono hB⟩⟩
theorem dD.form{B:Nat}{w:World}{v:SV}{l:List ak}(h:dD B w v l)(hl:0<l.length):
 ∃b off,v.A=some ⟨b,off,none⟩/\b<w.heap.size/\∀(i:Nat)(s:ak),l[i]?=some s->∃t:TV,(aW w t s/\rC B t)/\∀W,Below w.heap.size w W->∀j,j<4->W.cell? ⟨b,off+i*4+j,none⟩=(t.cells s)[j]?:=by
 obtain⟨_,ts,h1,h2,h3⟩:=h;obtain⟨b,off,hA,hb,hc⟩:=h2.1.form hl (by omega);refine⟨b,off,hA,hb,λi s hs=>?_⟩;have hi:i<l.length:=(aZ.1 hs).1;have ht:ts[i]?=some (ts[i]'(by omega)):=aT _;refine⟨ts[i]'(by omega),h3 i s _ hs ht,λW hW j hj=>?_⟩;rw[hW.cell (p:=⟨b,off+i*4+j,none⟩) hb,iM,hc _ (by omega)];have hz:(l.zip ts)[i]?=some (s,ts[i]'(by omega)):=by rw[Jy];exact⟨hs,ht⟩
 exact bG (λp:ak×TV=>TV.cells p.2 p.1) 4 (λ_=>rfl) (l.zip ts) i j _ hz hj
theorem Bu{F:List ak}(h:(F.map ak.text).Nodup):F.Nodup:=by
 unfold List.Nodup at h⊢;rw[List.pairwise_map]at h;exact h.imp (λhne e=>hne (by rw[e]))
theorem lI.nodup{B:Nat}{w:World}{b:Nat}{F:List ak}(h:lI B w b F):(F.map ak.text).Nodup:=by
 obtain⟨D,_,_,h3,_⟩:=h;exact h3
theorem strict{T:List (List UInt8)}(h:T.Pairwise (·<=·))(hn:T.Nodup):T.Pairwise (· < ·):=by
 unfold List.Nodup at hn;refine List.Pairwise.imp₂ ?_ h hn;intro a b h1 h2;rcases Decidable.em (a<b)with h3|h3
 .exact h3
 .exact absurd (List.le_antisymm h1 (List.not_lt.1 h3)) h2
def NI(s:ak)(w:World)(e:Ending)(w':World):Prop:=
 ∃(A1:Option Addr)(c1:Nat)(A2:Option Addr)(c2:Nat)(A3:Option Addr)(c3:Nat),e= .returned (.tuple #[.agg #[.int .i64 s.day,.slice A1 s.aj.length c1,.slice A2 s.used.length c2,.slice A3 s.marks.length c3],.int .i64 0])/\aW w' ⟨⟨A1,c1⟩,⟨A2,c2⟩,⟨A3,c3⟩⟩ s/\rC w.heap.size ⟨⟨A1,c1⟩,⟨A2,c2⟩,⟨A3,c3⟩⟩/\Below w.heap.size w w'
theorem yH.ret{s:ak}{w:World}{e:Ending}{w':World}(h:yH 0 s w e w'):NI s w e w':=by
 obtain⟨hb,⟨_,t,rfl,hst,hnt⟩|⟨h0,_⟩⟩:=h
 .exact⟨t.h.A,t.h.c,t.u.A,t.u.c,t.m.A,t.m.c,rfl,hst,hnt,hb⟩
 .exact absurd rfl h0
theorem lI.acg{B:Nat}{w w':World}{b:Nat}{F:List ak}(h:lI B w b F)(hb:Below w.heap.size w w'){s:ak}(hs:s∈F)(hl:s.text.length<=maxLen):
 ∃t:TV,(Instr.lookup 142 (.map (some b)) (.string ⟨s.text.toArray⟩) false).run Tryz.prog w'= .ok (t.val s) w'/\aW w t s/\rC B t:=by
 obtain⟨D,⟨es,clock,h1,r⟩,h2,h3,h4,h5⟩:=h;have hown:w'.ownsMap Tryz.prog 9 R1 b (Maps.size D) D:=⟨es,clock,(hb.block b (av h1)).trans h1,r⟩;obtain⟨t,ht,hst⟩:=h4 s hs;obtain⟨v,ps,hrun,hv⟩:=hown.lookup (t:=142) (e:=48) Br Tryz.underlying142 (aaS w') (zd:=.held gB) (zp:=[]) rfl (Qy hl);have h6:=Qz hv;rw[ht]at h6;injection h6 with h6
 subst h6;exact⟨t,hrun,hst⟩
theorem cells_one(l:List (ak×TV)):∀u∈l.flatMap (λp=>TV.cells p.2 p.1),u.oneCell'=true:=by
 intro u hu;obtain⟨p,_,hp⟩:=Aj.1 hu;simp only[TV.cells,ak.cells,d_,iW,or_false]at hp;rcases hp with rfl|rfl|rfl|rfl<;>rfl
end
section
open Go.RowKit Go.Shelf Go.Sort
end
section
open Go.RowKit Go.Shelf
theorem dD.one{B:Nat}{w:World}{b:Nat}{s:ak}{t:TV}(hb:w.heap[b]?=some (.cells (t.cells s).toArray 48 (0,0)))(hs:aW w t s)(hn:rC B t)(hB:B<=b):dD B w ⟨some ⟨b,0,none⟩,1⟩ [s]:=by
 refine⟨lH hB,[t],rfl,⟨⟨by simp[TV.cells,ak.cells],?_,λ_=>⟨_,rfl,λj u hj=>?_⟩⟩,(λh=>by cases h),bH _,by unfold maxLen;simp⟩,λi x y hx hy=>?_⟩
 .intro u hu
  simp only[List.zip_cons_cons,List.zip_nil_right,qR,List.flatMap_nil,b_,TV.cells,ak.cells,d_,iW,or_false]at hu;rcases hu with rfl|rfl|rfl|rfl<;>rfl
 .rw[Addr.add_lit,aG _ _ (0+j) _ _ _ hb]
  simpa using hj
 .cases i with
  |zero=>
   simp at hx hy;rw[<-hx,<-hy];exact⟨hs,hn⟩
  |succ i=>simp at hx
end
section
open Go.RowKit Go.Shelf
def au.pU(C:au)(x:Int):Prop:=x= -1\/(0<=x/\x<C.acts.length)
theorem CO{C:au}{s:ak}{x:Int}(hx:C.pU x)(hO:bJ C s)(hd:s.day<C.days):C.bT s x=0/\bJ C (C.next s x):=by
 rcases hx with rfl|⟨h0,h1⟩
 .refine⟨?_,?_⟩
  .have h1:C.fC s=true:=(iC C s).2 hO
   have h4:(s.day==C.days)=false:=by simp;omega
   have h3:decide ((C.acts.length:Int)<= -1)=false:=by simp;omega
   simp only[au.bT,h1,h3,h4,Bool.not_true,cond_false];rfl
  .exact Sb hO hd
 .obtain⟨i,rfl⟩:∃i:Nat,x=i:=⟨x.toNat,by omega⟩
  have hi:i<C.acts.length:=by omega
  have ha:=aT hi;refine⟨D8 hO hd hi,?_⟩;rw[xK ha];exact Ql hO ha
end
section
open Go.RowKit Go.Shelf
def au.sP(C:au)(l:List Int):ak:=l.foldl (λs x=>C.next s x) C.first
structure Good(C:au)(l:List Int):Prop where
 valid:C.valid=true
 len:l.length<=4000
 legal:∀(k:Nat)(x:Int),l[k]?=some x->C.bT (C.sP (l.take k)) x=0
def au.trail(C:au)(l:List Int)(k:Nat):List ak:=(List.range (k+1)).map (λi=>C.sP (l.take i))
theorem Xw(C:au)(l:List Int)(x:Int):C.sP (l++[x])=C.next (C.sP l) x:=by unfold au.sP;rw[t_];rfl
theorem xL{C:au}{l:List Int}{k:Nat}{x:Int}(h:l[k]?=some x):C.sP (l.take (k+1))=C.next (C.sP (l.take k)) x:=by
 rw[take_snoc' h,Xw]
theorem CP(C:au)(l:List Int)(k:Nat):(C.trail l k).length=k+1:=by simp[au.trail]
theorem QB(C:au)(l:List Int)(k:Nat):C.trail l (k+1)=C.trail l k++[C.sP (l.take (k+1))]:=by
 unfold au.trail;rw[List.range_succ (n:=k+1),uf];rfl
theorem J8{C:au}{l:List Int}{n k:Nat}(h:k<=n):(C.trail l n)[k]?=some (C.sP (l.take k)):=by
 unfold au.trail;rw[gG,Ao (by omega)];rfl
theorem qH{C:au}{s:ak}{x:Int}(h:C.bT s x=0):bJ C s/\s.day<C.days/\C.pU x/\bJ C (C.next s x):=by
 unfold au.bT at h;cases h1:C.fC s with
 |false=>rw[h1]at h;cases h
 |true=>
  have hO:=(iC C s).1 h1;cases h2:decide (x< -1)with
  |true=>rw[h1,h2]at h;cases h
  |false=>
   cases h3:decide ((C.acts.length:Int)<=x)with
   |true=>rw[h1,h2,h3]at h;cases h
   |false=>
    cases h4:(s.day==C.days)with
    |true=>rw[h1,h2,h3,h4]at h;cases h
    |false=>
     rw[decide_eq_false_iff_not]at h2 h3;rw[beq_eq_false_iff_ne]at h4;have hd:=hO.WT;have hs:C.pU x:=by
      by_cases e:x= -1
      .exact .inl e
      .exact .inr ⟨by omega,by omega⟩
     exact⟨hO,by omega,hs,(CO hs hO (by omega)).2⟩
theorem Good.ok{C:au}{l:List Int}(h:Good C l):∀k,k<=l.length->bJ C (C.sP (l.take k))
 |0,_=>by rw[bV];exact Bj h.valid
 |k+1,hk=>by
  have hx:=aT (l:=l) (i:=k) (by omega);rw[xL hx];exact(qH (h.legal k _ hx)).2.2.2
def wh(o:Option Nat)(g:Nat)(w:World)(t:TV)(s:ak):Prop:=∀w',aH (λk=>some k=o\/k=g) w w'->aW w' t s
theorem wh.at{o:Option Nat}{g:Nat}{w:World}{t:TV}{s:ak}(h:wh o g w t s):aW w t s:=h w (aH.refl _ _)
theorem wh.below{o:Option Nat}{g:Nat}{w w':World}{t:TV}{s:ak}(h:wh o g w t s)(hb:Below w.heap.size w w'):wh o g w' t s:=
 λ_ hu=>h _ (((aH.refl _ w).on hb).trans hu (λ_ _ h=>h))
theorem wh.upd{o:Option Nat}{g:Nat}{w w':World}{t:TV}{s:ak}(h:wh o g w t s)(hu:aH (λk=>k=g) w w'):wh o g w' t s:=
 λ_ hv=>h _ ((hu.mono (λ_ _ e=>.inr e)).trans hv (λ_ _ h=>h))
def jl(g B:Nat)(w:World)(v:Value)(R:List ak):Prop:=
 (∀k,v.ownBlock=some k->k≠g)/\∃ts:List TV,ts.length=R.length/\w.ownsRow B 48 4 v R.length ((R.zip ts).flatMap (λp=>TV.cells p.2 p.1))/\∀(i:Nat)(s:ak)(t:TV),R[i]?=some s->ts[i]?=some t->wh v.ownBlock g w t s/\rC B t
theorem jl.below{g B:Nat}{w w':World}{v:Value}{R:List ak}(h:jl g B w v R)(hb:Below w.heap.size w w'):jl g B w' v R:=by
 obtain⟨h0,ts,h1,h2,h3⟩:=h;exact⟨h0,ts,h1,ownsRow_below h2 hb,λi s t hs ht=>⟨(h3 i s t hs ht).1.below hb,(h3 i s t hs ht).2⟩⟩
theorem jl.upd{g B:Nat}{w w':World}{v:Value}{R:List ak}(h:jl g B w v R)(hu:aH (λk=>k=g) w w'):jl g B w' v R:=by
 obtain⟨h0,ts,h1,h2,h3⟩:=h;refine⟨h0,ts,h1,⟨h2.1,?_⟩,λi s t hs ht=>⟨(h3 i s t hs ht).1.upd hu,(h3 i s t hs ht).2⟩⟩;rcases h2.2 with e|⟨b,cap,cur,hv,hB,hg,r⟩
 .exact .inl e
 .exact .inr ⟨b,cap,cur,hv,hB,hu.keep hg (h0 b (by rw[hv];rfl)),r⟩
theorem jl.ret{g B:Nat}{w:World}{v:Value}{R:List ak}(h:jl g B w v R):∃A c,v= .slice A R.length c/\dD B w ⟨A,c⟩ R:=by
 obtain⟨_,ts,h1,h2,h3⟩:=h;obtain⟨A,c,rfl,hAt⟩:=nX h2 (cells_one _);exact⟨A,c,rfl,λb off e=>(h2.lt b (by simp only at e;rw[e];rfl)).1,ts,h1,hAt,λi s t hs ht=>⟨(h3 i s t hs ht).1.at,(h3 i s t hs ht).2⟩⟩
theorem jl.sep{g B:Nat}{w z z':World}{v:Value}{R:List ak}(h:jl g B w v R)(hg:g<z.heap.size)(hz:w.heap.size<=z.heap.size){t:TV}{s:ak}(hs:aW z' t s)(hn:rC z.heap.size t):wh v.ownBlock g z' t s:=by
 obtain⟨_,ts,h1,h2,h3⟩:=h;exactλw' hu=>hs.vE hn hu (λk hk=>by
  rcases hk with hk|hk
  .have:=(h2.lt k hk.symm).2;omega
  .omega)
theorem xM{W:World}{ops:Array Oper}{rest:List Oper}{o:Oper}{a:Act}{Q:Exit->Act->World->Prop}
 (hg:o.guard=none)(so x:Operand)(hop:o.op=Op.call {callee:=Callee.builtin Builtin.append,args:=#[so,x],argTypes:=#[41,41]})
 (g B:Nat)(v:Value)(R:List ak)(hs:a.eval so=v)(hown:jl g B W v R)(t:TV)(s:ak)(hst:wh v.ownBlock g W t s)(hnt:rC B t)(arr:Array Value)(harr:arr=(t.cells s).toArray)
 (hx:a.eval x= .slice (some ⟨W.heap.size,0,none⟩) 1 1)(hlen:R.length<=1000000)(hBW:B<=W.heap.size)(hgW:g<W.heap.size)
 (hK:∀A' c' w',jl g B w' (.slice A' (R++[s]).length c') (R++[s])->wh (Value.slice A' (R++[s]).length c').ownBlock g w' t s->Below B W w'->w'.heap[g]?=W.heap[g]?->wpList Tryz.prog ops Q rest (a.put o.dst (.slice A' (R++[s]).length c')) w'):
 wpList Tryz.prog ops Q (o::rest) a (W.alloc (.cells arr 48)):=by
 subst harr;obtain⟨h0,ts,h1,h2,h3⟩:=hown;obtain⟨is,hsi,hsz,hss,hsb⟩:=info_parts' (P:=Tryz.prog) (t:=48) (z:=some gB) (s:=4) (b:=80) (by kernel_rfl);have hba:Below W.heap.size W (W.alloc (.cells (t.cells s).toArray 48)):=aK (aD _ _) _;refine wpList_append_own_at _ hg so x 41 hop B 48 is gB 4 80 Tryz.underlying41 hsi hsz hss hsb rfl (by decide) v R.length _ hs (World.ownsRow.alloc h2 _) ⟨W.heap.size,0,none⟩ 1 1 (t.cells s) hx rfl
  (λj u hj=>by
   rw[Addr.add_lit,aG _ _ (0+j) _ _ _ (bC W _)];simpa using hj) (by
   intro u hu;simp only[TV.cells,ak.cells,d_,iW,or_false]at hu;rcases hu with rfl|rfl|rfl|rfl<;>rfl) (by unfold maxLen;omega) (by omega) (by simp;omega) ?_
 intro v' w' hown' hgrow _ hblk;have ach:aH (λk=>some k=v.ownBlock\/k=g) (W.alloc (.cells (t.cells s).toArray 48)) w':=⟨hgrow.os,hgrow.tape,hgrow.output,hgrow.size,λk hk hn=>hgrow.block k hk (λe=>hn (.inl e))⟩;have hsep:∀(t':TV)(s':ak),wh v.ownBlock g W t' s'->wh v'.ownBlock g w' t' s':=λt' s' h w'' hu=>
  (h.below hba) w'' (ach.trans hu (λi hi e=>by
   rcases e with e|e
   .rcases hblk with hblk|hblk
    .rw[<-hblk];exact .inl e
    .rw[hblk]at e;injection e with e;omega
   .exact .inr e))
 suffices hso:jl g B w' v' (R++[s])/\Below B W w'/\w'.heap[g]?=W.heap[g]? by
  obtain⟨A',c',e,_⟩:=hso.1.ret;subst e;exact hK A' c' w' hso.1 (hsep _ _ hst) hso.2.1 hso.2.2
 refine⟨⟨?_,ts++[t],by simp[h1],?_,λi x' t' hx' ht'=>?_⟩,?_,?_⟩
 .intro k hk
  rcases hblk with hblk|hblk
  .rw[hblk]at hk;exact h0 k hk
  .rw[hblk]at hk;injection hk with hk;simp at hk;omega
 .rw[List.zip_append h1.symm,Fb,lS,vN]
  simpa using hown'
 .by_cases hi:i<R.length
  .rw[lX hi]at hx'
   rw[lX (by rw[h1];exact hi)]at ht';exact⟨hsep _ _ (h3 i x' t' hx' ht').1,(h3 i x' t' hx' ht').2⟩
  .rw[oG (by omega)]at hx'
   rw[oG (by rw[h1];omega),h1]at ht';cases hk:i - R.length with
   |zero=>
    rw[hk]at hx' ht';simp at hx' ht';rw[<-hx',<-ht'];exact⟨hsep _ _ hst,hnt⟩
   |succ q=>rw[hk]at hx';simp at hx'
 .exact((aD _ W).alloc hBW _).grown hgrow (by simp;omega) (λk hk=>(h2.lt k hk).1)
 .rw[hgrow.block g (by simp;omega) (λe=>h0 g e.symm rfl)]
  exact hba.block g hgW
def ZF(C:au)(l:List Int)(w:World)(e:Ending)(w':World):Prop:=
 ∃(A:Option Addr)(c:Nat)(R:List ak)(er:Int),e= .returned (.tuple #[.slice A R.length c,.int .i64 er])/\Below w.heap.size w w'/\
  ((er=0/\Good C l/\R=C.trail l l.length/\dD w.heap.size w' ⟨A,c⟩ R)\/(er≠0/\¬Good C l/\A=none/\c=0/\R=[]))
end
open Go.RowKit Go.Shelf
theorem frozen_of_row{w:World}{g:Nat}{cs:Array Value}{t:TypeId}(h:w.heap[g]?=some (.cells cs t (0,0)))(i:Nat):w.frozen? ⟨g,i,none⟩=false:=by simp[World.frozen?,h]
theorem NJ{w W:World}{g:Nat}{y0 y1 y2 y3 x0 x1 x2 x3:Value}{t:TypeId}(h:w.heap[g]?=some (.cells #[y0,y1,y2,y3] t (0,0)))
 (hW:W=(((w.setCell ⟨g,0,none⟩ x0).setCell ⟨g,1,none⟩ x1).setCell ⟨g,2,none⟩ x2).setCell ⟨g,3,none⟩ x3):W.heap[g]?=some (.cells #[x0,x1,x2,x3] t (0,0)):=by
 subst hW;have one:∀{w:World}{cs:Array Value}(i:Nat)(x:Value),w.heap[g]?=some (.cells cs t (0,0))->(w.setCell ⟨g,i,none⟩ x).heap[g]?=some (.cells (cs.setIfInBounds i x) t (0,0)):=λ{w cs} i x h=>by
  simp[World.setCell,Array.getElem?_modify,h]
 exact one 3 x3 (one 2 x2 (one 1 x1 (one 0 x0 h)))
theorem Sl(v:CV)(C:au)(lv:SV)(l:List Int)(w:World)(hC:bU w v C)(hV:At w 1 lv.A l.length lv.c (aR l)):Calls Tryz.prog 15 #[v.val C,.slice lv.A l.length lv.c] w (ZF C l w):=by
 obtain⟨⟨dF,dG⟩,⟨dH,dK⟩,⟨dV,dn⟩,⟨dQ,dh⟩,⟨dz,dB⟩⟩:=v;obtain⟨lA,lc⟩:=lv;have hlx:l.length<=9223372036854775807:=by have h1:=hV.2.2.1;have h2:=hV.2.2.2;unfold maxLen at h2;omega
 have HC:=ah hC;clear hC;have HL:=ah hV;clear hV;simp only[CV.val,CV.cells];go_enter Tryz.func15,Tryz.ntmps15;go_upto_region 1 with(fail)
 generalize hW0:World.alloc _ _=W0;obtain⟨HB,hh0⟩:=bx1 hW0;clear hW0;obtain⟨jA,jB,jK,j4,j5,kV,lT⟩:=Fg hh0;clear hh0;change Code.wp _ _ _ _ (Bl.val (⟨W0,aD _ _⟩:Bl W0));generalize(⟨W0,aD _ _⟩:Bl W0)=s0;have Ph:=ah (λz:Bl W0=>yJ (⟨⟨dF,dG⟩,⟨dH,dK⟩,⟨dV,dn⟩,⟨dQ,dh⟩,⟨dz,dB⟩⟩:CV) C z.val (HC.out.below (ay HB.out z.prop)));simp only[CV.val,CV.cells]at Ph;cases qv:C.valid with
 |false=>
  rw[qv]at Ph;have ZG:Hid (¬Good C l):=λh=>by rw[h.valid]at qv;cases qv
  have yT:Hid (∀z:Bl W0,Calls Tryz.prog 38 #[.agg #[.int .i64 C.aF,.slice dF C.aj.length dG,.slice dH C.units.length dK,.slice dV C.acts.length dn,.slice dQ C.clauses.length dh,.int .i64 C.days,.slice dz C.off.length dB]] z.val (λe w'=>e= .returned (.tuple #[.agg #[.int .i64 0,.slice none 0 0,.slice none 0 0,.slice none 0 0],.int .i64 1])/\Below z.val.heap.size z.val w')):=λz=>(Ph.out z).mono (by
   rintro e w' ⟨hb,⟨h0,_⟩|⟨_,he⟩⟩
   .cases h0
   .exact⟨he,hb⟩)
  go_wp2_with (go_at_call 38;refine(yT.out _).mono ?_;rintro e z1 ⟨rfl,hz⟩;obtain⟨z1,rfl⟩:=Bl.on hz;clear hz)
  go_ret2
  exact⟨none,0,[],1,rfl,ay HB.out (aK (Bl.prop _) _),.inr ⟨by decide,ZG.out,rfl,rfl,rfl⟩⟩
 |true=>
  rw[qv]at Ph;have yT:=ah (λz:Bl W0=>(Ph.out z).mono (λ_ _ h=>h.ret));generalize hfs:C.first=s1 at yT;have Vt:=ah hfs;clear hfs;go_wp2_with (go_at_call 38;refine(yT.out _).mono ?_;rintro e z1 ⟨CQ,CS,CU,CW,CX,CY,rfl,hst,hnt,hz⟩;refine Hid.out ?_);refine ah ?_;obtain⟨zb,Sm⟩:∃zb:Bl W0,Hid (Below zb.val.heap.size zb.val z1/\rC zb.val.heap.size (⟨⟨CQ,CS⟩,⟨CU,CW⟩,⟨CX,CY⟩⟩:TV)):=⟨_,hz,hnt⟩;have HST:=ah hst;clear hz hnt hst;go_upto_region 2 with(fail)
  obtain⟨Wg,Vx⟩:∃Wg,Hid (Wg=z1.alloc (.cells #[.int .i64 s1.day,.slice CQ s1.aj.length CS,.slice CU s1.used.length CW,.slice CX s1.marks.length CY] 48)):=⟨_,rfl⟩;rw[<-Vx.out];have hbg:Below z1.heap.size z1 Wg:=by rw[Vx.out];exact aK (aD _ _) _
  have hxg:Wg.heap[z1.heap.size]?=some (.cells #[.int .i64 s1.day,.slice CQ s1.aj.length CS,.slice CU s1.used.length CW,.slice CX s1.marks.length CY] 48 (0,0)):=by rw[Vx.out];exact bC z1 _
  obtain⟨g,HG⟩:∃g,Hid (g=z1.heap.size):=⟨_,rfl⟩;have mE:Hid (Below W0.heap.size W0 Wg):=ay (ay zb.prop Sm.out.1) hbg;have Lg:Hid (rC W0.heap.size (⟨⟨CQ,CS⟩,⟨CU,CW⟩,⟨CX,CY⟩⟩:TV)):=Sm.out.2.mono zb.prop.size;have g0:Wg.cell? ⟨z1.heap.size,0,none⟩=some (.int .i64 s1.day):=(aG Wg _ 0 _ _ _ hxg).trans rfl;have g1:Wg.cell? ⟨z1.heap.size,1,none⟩=some (.slice CQ s1.aj.length CS):=(aG Wg _ 1 _ _ _ hxg).trans rfl;have g2:Wg.cell? ⟨z1.heap.size,2,none⟩=some (.slice CU s1.used.length CW):=(aG Wg _ 2 _ _ _ hxg).trans rfl;have g3:Wg.cell? ⟨z1.heap.size,3,none⟩=some (.slice CX s1.marks.length CY):=(aG Wg _ 3 _ _ _ hxg).trans rfl;cases q4:decide ((4000:Int)<(l.length:Int))with
  |true=>
   have ZG:Hid (¬Good C l):=λh=>by have:=h.len;rw[decide_eq_true_eq]at q4;omega
   go_wp2
   go_ret2
   exact⟨none,0,[],3,rfl,ay HB.out mE.out,.inr ⟨by decide,ZG.out,rfl,rfl,rfl⟩⟩
  |false=>
   have HL4:Hid (l.length<=4000):=by show l.length<=4000;rw[decide_eq_false_iff_not]at q4;omega
   go_upto_region 7 with(fail)
   have HRW:Hid (jl g W0.heap.size (Wg.alloc (.cells #[.int .i64 s1.day,.slice CQ s1.aj.length CS,.slice CU s1.used.length CW,.slice CX s1.marks.length CY] 48)) (.slice (some ⟨Wg.heap.size,0,none⟩) [s1].length 1) [s1]/\wh (Value.slice (some ⟨Wg.heap.size,0,none⟩) [s1].length 1).ownBlock g (Wg.alloc (.cells #[.int .i64 s1.day,.slice CQ s1.aj.length CS,.slice CU s1.used.length CW,.slice CX s1.marks.length CY] 48)) (⟨⟨CQ,CS⟩,⟨CU,CW⟩,⟨CX,CY⟩⟩:TV) s1):=by
    have hgl:=av hxg;have hsep:wh (some Wg.heap.size) g (Wg.alloc (.cells #[.int .i64 s1.day,.slice CQ s1.aj.length CS,.slice CU s1.used.length CW,.slice CX s1.marks.length CY] 48)) (⟨⟨CQ,CS⟩,⟨CU,CW⟩,⟨CX,CY⟩⟩:TV) s1:=λw' hu=>
     HST.out.below ((hbg.trans ((aK (aD _ Wg) _).mono hbg.size)).trans (hu.below (by simp;omega) (λk hk=>by
      have h1:=HG.out;have h2:=hbg.size;rcases hk with hk|hk
      .injection hk with hk;omega
      .omega)))
    refine⟨⟨λk hk=>?_,[(⟨⟨CQ,CS⟩,⟨CU,CW⟩,⟨CX,CY⟩⟩:TV)],rfl,⟨rfl,.inr ⟨Wg.heap.size,1,_,rfl,mE.out.size,bC Wg _,bH _,by decide,rfl,rfl⟩⟩,λi s t hs ht=>?_⟩,hsep⟩
    .have h1:=HG.out
     injection hk with hk
     simp only at hk;omega
    .cases i with
     |zero=>simp at hs ht;subst hs ht;exact⟨hsep,Lg.out⟩
     |succ i=>simp at hs
   obtain⟨Wr,HWr⟩:∃Wr,Hid (Wr=Wg.alloc (.cells #[.int .i64 s1.day,.slice CQ s1.aj.length CS,.slice CU s1.used.length CW,.slice CX s1.marks.length CY] 48)):=⟨_,rfl⟩;rw[<-HWr.out]at HRW⊢;have hbr:Below Wg.heap.size Wg Wr:=by rw[HWr.out];exact aK (aD _ _) _
   have HXG:Hid (Wr.heap[g]?=some (.cells #[.int .i64 s1.day,.slice CQ s1.aj.length CS,.slice CU s1.used.length CW,.slice CX s1.marks.length CY] 48 (0,0))):=by show _=_;rw[HG.out,hbr.block _ (av hxg)];exact hxg
   have Qx:Hid (Below W0.heap.size W0 Wr):=ay mE.out hbr;have HGW:Hid (W0.heap.size<=g):=by show _<=_;rw[HG.out];exact(ay zb.prop Sm.out.1).size
   rw[<-HG.out];clear hbr g0 g1 g2 g3 hxg hbg;go_wp2
   go_loopg [26,8] l.length (λgk v26 v8 wr=>∃(k:Nat)(R:List ak)(A8:Option Addr)(c8:Nat)(s:ak)(fQ:Option Addr)(eZ:Nat)(gH:Option Addr)(eX:Nat)(h_:Option Addr)(dW:Nat),gk=l.length - k/\k<=l.length/\v26= .int .i64 k/\v8= .slice A8 R.length c8/\Hid (R=C.trail l k/\s=C.sP (l.take k))/\Hid (∀(i:Nat)(x:Int),i<k->l[i]?=some x->C.bT (C.sP (l.take i)) x=0)/\Hid (jl g W0.heap.size wr (.slice A8 R.length c8) R)/\Hid (wh (Value.slice A8 R.length c8).ownBlock g wr (⟨⟨fQ,eZ⟩,⟨gH,eX⟩,⟨h_,dW⟩⟩:TV) s)/\Hid (wr.heap[g]?=some (.cells #[.int .i64 s.day,.slice fQ s.aj.length eZ,.slice gH s.used.length eX,.slice h_ s.marks.length dW] 48 (0,0)))/\Hid (Below W0.heap.size W0 wr))
   case atStart=>exact⟨0,[s1],_,_,s1,CQ,CS,CU,CW,CX,CY,rfl,aV _,rfl,rfl,⟨by rw[<-Vt.out];rfl,Vt.out.symm⟩,(λi x h=>by omega),HRW.out.1,HRW.out.2,HXG.out,Qx.out⟩
   case round=>
    obtain⟨k,R,A8,c8,s,fQ,eZ,gH,eX,h_,dW,eH,hk,rfl,rfl,HR,Nr,HN,QC,HX,HW⟩:=hrel;have iB:=ah eH;clear eH;by_cases hlt:k<l.length
    .obtain⟨x,hx⟩:∃x,l[k]?=some x:=⟨_,aT hlt⟩
     obtain⟨lb,lo,hA,hlb,hlc⟩:=(HL.out.below (by omega) (ay HB.out HW.out)).1.form (by omega) (by omega);try simp only at hA
     subst hA;have cl:wr.cell? ⟨lb,lo+k,none⟩=some (.int .i64 x):=by rw[hlc k (by omega)];simp only[aR,gG,hx,j3]
     have ZH:=ah hx;clear hx hlc;have k1:(k:Int)<(l.length:Int):=by omega
     have y0:=vW HW.out jA;have y1:=vW HW.out jB;have y2:=vW HW.out jK;have y3:=vW HW.out j4;have y4:=vW HW.out j5;have y5:=vW HW.out kV;have y6:=vW HW.out lT;have d0:∀z:Bl wr,z.val.cell? ⟨g,0,none⟩=some (.int .i64 s.day):=λz=>z.cell ((aG wr _ 0 _ _ _ HX.out).trans rfl);have d1:∀z:Bl wr,z.val.cell? ⟨g,1,none⟩=some (.slice fQ s.aj.length eZ):=λz=>z.cell ((aG wr _ 1 _ _ _ HX.out).trans rfl);have d2:∀z:Bl wr,z.val.cell? ⟨g,2,none⟩=some (.slice gH s.used.length eX):=λz=>z.cell ((aG wr _ 2 _ _ _ HX.out).trans rfl);have d3:∀z:Bl wr,z.val.cell? ⟨g,3,none⟩=some (.slice h_ s.marks.length dW):=λz=>z.cell ((aG wr _ 3 _ _ _ HX.out).trans rfl);have CZ:=ah (λz:Bl wr=>Bq (⟨⟨dF,dG⟩,⟨dH,dK⟩,⟨dV,dn⟩,⟨dQ,dh⟩,⟨dz,dB⟩⟩:CV) C (⟨⟨fQ,eZ⟩,⟨gH,eX⟩,⟨h_,dW⟩⟩:TV) s x z.val (HC.out.below (ay HB.out (ay HW.out z.prop))) (QC.out.at.below z.prop));simp only[CV.val,CV.cells,TV.val,TV.cells,ak.cells]at CZ;have Jl:=ah (av HX.out);obtain⟨za,hza⟩:∃za:Bl wr,za.val=wr:=⟨⟨wr,aD _ _⟩,rfl⟩;rw[<-hza]at cl⊢;clear hza;by_cases he:C.bT s x=0
     .have HE:=ah he;clear he
      have Lh:=ah (λz:Bl wr=>by have h:=CZ.out z;rw[HE.out]at h;exact h.mono (λ_ _ h=>h.ret));clear CZ;generalize hs':C.next s x=s' at Lh;have tT:=ah hs';clear hs';go_wp2_with (go_at_call 39;refine(Lh.out _).mono ?_;rintro e z2 ⟨D_,Ea,Eb,Ec,Ed,Ee,rfl,GV,GX,hz2⟩;refine Hid.out ?_);refine ah ?_;obtain⟨zc,HZC⟩:∃zc:Bl wr,Hid (Below zc.val.heap.size zc.val z2/\rC zc.val.heap.size (⟨⟨D_,Ea⟩,⟨Eb,Ec⟩,⟨Ed,Ee⟩⟩:TV)/\aW z2 (⟨⟨D_,Ea⟩,⟨Eb,Ec⟩,⟨Ed,Ee⟩⟩:TV) s'):=⟨_,hz2,GX,GV⟩;have hpz:Below wr.heap.size wr z2:=ay zc.prop HZC.out.1;clear hz2 GX GV cl;have e0:=d0 ⟨z2,hpz⟩;have f0:z2.frozen? ⟨g,0,none⟩=false:=frozen_of_row ((hpz.block g Jl.out).trans HX.out) 0;have e1:=d1 ⟨z2,hpz⟩;have f1:z2.frozen? ⟨g,1,none⟩=false:=frozen_of_row ((hpz.block g Jl.out).trans HX.out) 1;have e2:=d2 ⟨z2,hpz⟩;have f2:z2.frozen? ⟨g,2,none⟩=false:=frozen_of_row ((hpz.block g Jl.out).trans HX.out) 2;have e3:=d3 ⟨z2,hpz⟩;have f3:z2.frozen? ⟨g,3,none⟩=false:=frozen_of_row ((hpz.block g Jl.out).trans HX.out) 3;simp only at e0 e1 e2 e3;go_upto_region 11 with(fail)
      obtain⟨Wb,YI⟩:∃Wb,Hid (Wb=(((z2.setCell ⟨g,0,none⟩ (.int .i64 s'.day)).setCell ⟨g,1,none⟩ (.slice D_ s'.aj.length Ea)).setCell ⟨g,2,none⟩ (.slice Eb s'.used.length Ec)).setCell ⟨g,3,none⟩ (.slice Ed s'.marks.length Ee)):=⟨_,rfl⟩;rw[<-YI.out];obtain⟨b0,b1,b2,b3,hub⟩:=nk e0 e1 e2 e3 YI.out;have HXB:Hid (Wb.heap[g]?=some (.cells #[.int .i64 s'.day,.slice D_ s'.aj.length Ea,.slice Eb s'.used.length Ec,.slice Ed s'.marks.length Ee] 48 (0,0))):=NJ ((hpz.block g Jl.out).trans HX.out) YI.out;have Xv:Hid (jl g W0.heap.size Wb (.slice A8 R.length c8) R):=(HN.out.below hpz).upd hub;have sO:Hid (wh (Value.slice A8 R.length c8).ownBlock g Wb (⟨⟨D_,Ea⟩,⟨Eb,Ec⟩,⟨Ed,Ee⟩⟩:TV) s'):=(HN.out.sep (z:=zc.val) (by have:=zc.prop.size;have:=Jl.out;omega) zc.prop.size HZC.out.2.2 HZC.out.2.1).upd hub;have aiY:Hid (rC W0.heap.size (⟨⟨D_,Ea⟩,⟨Eb,Ec⟩,⟨Ed,Ee⟩⟩:TV)):=HZC.out.2.1.mono (by have:=zc.prop.size;have:=HW.out.size;omega);have HWB:Hid (Below W0.heap.size W0 Wb):=(ay HW.out hpz).trans (hub.below (by have:=hpz.size;have:=HW.out.size;omega) (λk hk=>by have:=HGW.out;omega));have hbw:=HWB.out.size;have hgw:g<Wb.heap.size:=av HXB.out;have hrl2:R.length<=1000000:=by have h1:=HL4.out;rw[HR.out.1,CP];omega
      clear e0 e1 e2 e3 f0 f1 f2 f3 hpz hub d0 d1 d2 d3;go_wp2_with (at_builtin;refine xM rfl _ _ rfl g W0.heap.size (.slice A8 R.length c8) R rfl Xv.out (⟨⟨D_,Ea⟩,⟨Eb,Ec⟩,⟨Ed,Ee⟩⟩:TV) s' sO.out aiY.out _ rfl rfl hrl2 hbw hgw ?_;intro A9 c9 w9 h1 h2 h3 h4;refine Hid.out ?_);refine ah ?_;have HN9:=ah h1;have HS9:=ah h2;have HW9:Hid (Below W0.heap.size W0 w9):=HWB.out.trans h3;have HX9:Hid (w9.heap[g]?=some (.cells #[.int .i64 s'.day,.slice D_ s'.aj.length Ea,.slice Eb s'.used.length Ec,.slice Ed s'.marks.length Ee] 48 (0,0))):=h4.trans HXB.out;have HR9:Hid (R++[s']=C.trail l (k+1)/\s'=C.sP (l.take (k+1))):=by
       have h5:s'=C.sP (l.take (k+1)):=by rw[xL ZH.out,<-HR.out.2];exact tT.out.symm
       exact⟨by rw[QB,<-HR.out.1,<-h5],h5⟩
      have HL9:Hid (∀(i:Nat)(x:Int),i<k+1->l[i]?=some x->C.bT (C.sP (l.take i)) x=0):=λi x' hi hx'=>by
       by_cases e:i=k
       .subst e
        rw[ZH.out]at hx';cases hx'
        rw[<-HR.out.2];exact HE.out
       .exact Nr.out i x' (by omega) hx'
      clear h1 h2 h3 h4 b0 b1 b2 b3;go_wp2
      go_roundg (l.length - (k+1))
      case measure=>rw[iB.out];omega
      case rel=>exact⟨k+1,R++[s'],A9,c9,s',D_,Ea,Eb,Ec,Ed,Ee,rfl,by omega,by go_num,by simp,HR9,HL9,HN9,HS9,HX9,HW9⟩
     .have ZG:Hid (¬Good C l):=λh=>he (by rw[HR.out.2];exact h.legal k x ZH.out)
      generalize hee:C.bT s x=er at CZ he;have Lh:Hid (∀z:Bl wr,Calls Tryz.prog 39 #[.agg #[.int .i64 C.aF,.slice dF C.aj.length dG,.slice dH C.units.length dK,.slice dV C.acts.length dn,.slice dQ C.clauses.length dh,.int .i64 C.days,.slice dz C.off.length dB],.agg #[.int .i64 s.day,.slice fQ s.aj.length eZ,.slice gH s.used.length eX,.slice h_ s.marks.length dW],.int .i64 x] z.val (λe w'=>e= .returned (.tuple #[.agg #[.int .i64 0,.slice none 0 0,.slice none 0 0,.slice none 0 0],.int .i64 er])/\Below z.val.heap.size z.val w')):=λz=>(CZ.out z).mono (by
       rintro e w' ⟨hb,⟨h0,_⟩|⟨_,he⟩⟩
       .exact absurd h0 he
       .exact⟨he,hb⟩)
      have hen:(er !=0)=true:=by simpa using he
      have Li:=ah he;clear CZ hee;go_wp2_with (go_at_call 39;refine(Lh.out _).mono ?_;rintro e z2 ⟨rfl,hz2⟩;refine Hid.out ?_);refine ah ?_;obtain⟨zc,HZC⟩:∃zc:Bl wr,Hid (Below zc.val.heap.size zc.val z2):=⟨_,hz2⟩;have hpz:Below wr.heap.size wr z2:=ay zc.prop HZC.out;clear hz2 cl;have e0:=d0 ⟨z2,hpz⟩;have f0:z2.frozen? ⟨g,0,none⟩=false:=frozen_of_row ((hpz.block g Jl.out).trans HX.out) 0;have e1:=d1 ⟨z2,hpz⟩;have f1:z2.frozen? ⟨g,1,none⟩=false:=frozen_of_row ((hpz.block g Jl.out).trans HX.out) 1;have e2:=d2 ⟨z2,hpz⟩;have f2:z2.frozen? ⟨g,2,none⟩=false:=frozen_of_row ((hpz.block g Jl.out).trans HX.out) 2;have e3:=d3 ⟨z2,hpz⟩;have f3:z2.frozen? ⟨g,3,none⟩=false:=frozen_of_row ((hpz.block g Jl.out).trans HX.out) 3;simp only at e0 e1 e2 e3;go_upto_region 11 with(fail)
      obtain⟨Wb,YI⟩:∃Wb,Hid (Wb=(((z2.setCell ⟨g,0,none⟩ (.int .i64 0)).setCell ⟨g,1,none⟩ (.slice none 0 0)).setCell ⟨g,2,none⟩ (.slice none 0 0)).setCell ⟨g,3,none⟩ (.slice none 0 0)):=⟨_,rfl⟩;rw[<-YI.out];obtain⟨b0,b1,b2,b3,hub⟩:=nk e0 e1 e2 e3 YI.out;have HWB:Hid (Below W0.heap.size W0 Wb):=(ay HW.out hpz).trans (hub.below (by have:=hpz.size;have:=HW.out.size;omega) (λk hk=>by have:=HGW.out;omega));clear e0 e1 e2 e3 f0 f1 f2 f3 hpz hub;go_wp2
      go_ret2
      exact⟨none,0,[],er,rfl,ay HB.out HWB.out,.inr ⟨Li.out,ZG.out,rfl,rfl,rfl⟩⟩
    .obtain rfl:k=l.length:=by omega
     obtain⟨nA,nc,hv8,hN⟩:=HN.out.ret;have MC:Hid (dD W0.heap.size wr ⟨A8,c8⟩ R):=by
      injection hv8 with e1 _ e2
      rw[e1,e2];exact hN
     clear hv8 hN;go_wp2
     go_ret2
     exact⟨A8,c8,R,0,rfl,ay HB.out HW.out,.inl ⟨rfl,⟨qv,HL4.out,λi x hx=>Nr.out i x (aZ.1 hx).1 hx⟩,HR.out.1,MC.out.mono HB.out.size⟩⟩
end Go.Proofs.YtpmdedcnbockhaaGreatDoor

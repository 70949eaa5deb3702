/-
  Set; Meet; Clo0; Clo1; Clo; MStart; Grow; Run0; Run
-/
import Derived.Maps.OwnIn
import Derived.Test.YtpmdedcnbockhaaGreatDoorM18
import Derived.Test.YtpmdedcnbockhaaGreatDoorM20
import Derived.Test.YtpmdedcnbockhaaGreatDoorM14
set_option maxRecDepth 100000
set_option maxHeartbeats 8000000
namespace Go.Proofs.YtpmdedcnbockhaaGreatDoor
section
open Go.RowKit Go.Shelf Go.Sort
def R1(v:Value):Option (DataW Value×List MemPlace):=some (.held v,[])
theorem xJ:Maps.Keyed Tryz.prog 9:=Maps.string_keyed Tryz.underlying9
theorem Ya(w:World):(zeroValue 48).run Tryz.prog w= .ok fV w:=by kernel_rfl
theorem J_{l:List UInt8}(hl:l.length<=maxLen):keyOf Tryz.prog 9 (.string ⟨l.toArray⟩)=some (.string l):=by
 have h:=WideMaps.keyOf_string_mk (P:=Tryz.prog) Tryz.underlying9 (s:=⟨l.toArray⟩) (by simpa [ByteArray.size]using hl);simpa using h
def fB(w:World)(k:Nat):Prop:=∃es c,w.heap[k]?=some (.map es c)
theorem Src.upd{S:Nat->Prop}{w w':World}{size m:Nat}{A:Option Addr}{news:List Value}(h:Src w size A m news)(hs:0<size)(hu:aH S w w')(hS:∀k,S k->fB w k):Src w' size A m news:=by
 refine⟨h.1,h.2.1,λhm=>?_⟩;obtain⟨b,off,rfl,hlt,hc⟩:=h.form hm hs;have hl:0<news.length:=by rw[h.1];exact Nat.mul_pos hm hs
 have hn:¬S b:=λhb=>by
  obtain⟨es,c,hb⟩:=hS b hb;have h0:=hc 0 (Nat.mul_pos hm hs);rw[aW hl]at h0;simp[World.cell?,hb]at h0
 refine⟨_,rfl,λj u hj=>?_⟩;have hjl:j<m*size:=by rw[<-h.1];exact(bC.1 hj).1
 rw[Addr.add_lit,hu.cell hlt hn,hc j hjl,hj]
theorem At.upd{S:Nat->Prop}{w w':World}{size n c:Nat}{A:Option Addr}{xs:List Value}(h:At w size A n c xs)(hs:0<size)(hu:aH S w w')(hS:∀k,S k->fB w k):At w' size A n c xs:=⟨h.1.upd hs hu hS,h.2⟩
theorem bF.upd{S:Nat->Prop}{w w':World}{v:TV}{s:ak}(h:bF w v s)(hu:aH S w w')(hS:∀k,S k->fB w k):bF w' v s:=
 ⟨h.aj.upd (by omega) hu hS,h.used.upd (by omega) hu hS,h.marks.upd (by omega) hu hS⟩
theorem fB.upd{S:Nat->Prop}{w w':World}{k:Nat}(h:fB w k)(hu:aH S w w')(hk:¬S k):fB w' k:=by
 obtain⟨es,c,h⟩:=h;exact⟨es,c,hu.keep h hk⟩
def jA(B:Nat)(w:World)(b:Nat)(F:List ak):Prop:=
 ∃D:DataW Value,w.ownsMap Tryz.prog 9 R1 b (Maps.size D) D/\Maps.size D=F.length/\(F.map ak.text).Nodup/\
  (∀s∈F,∃t:TV,(∀z,D.atKey (.string s.text) z= .held (t.val s))/\bF w t s/\p9 B t)/\(∀k,Maps.has D k=true->∃s∈F,k= .string s.text)
theorem wN{w:World}{b n:Nat}{D:DataW Value}(h:w.ownsMap Tryz.prog 9 R1 b n D):w.ownsMap Tryz.prog 9 R1 b (Maps.size D) D:=by
 obtain⟨es,clock,hb,F,hs,rfl⟩:=h;exact⟨es,clock,hb,F,by simp[Maps.size,length_sorted],rfl⟩
theorem jA.blk{B:Nat}{w:World}{b:Nat}{F:List ak}(h:jA B w b F):fB w b:=by
 obtain⟨D,⟨es,c,hb,_⟩,_⟩:=h;exact⟨es,c,hb⟩
theorem jA.made(B:Nat)(w:World):jA B (w.alloc (.map #[] 0)) w.heap.size []:=
 ⟨.map [],World.ownsMap_made _ _ _ _,rfl,List.nodup_nil,by simp,λk hk=>by cases hk⟩
theorem jA.upd{B:Nat}{S:Nat->Prop}{w w':World}{b:Nat}{F:List ak}(h:jA B w b F)(hu:aH S w w')(hb:¬S b)(hS:∀k,S k->fB w k):jA B w' b F:=by
 obtain⟨D,⟨es,clock,h1,h2,h3,h4⟩,h5,h6,h7,h8⟩:=h;refine⟨D,⟨es,clock,hu.keep h1 hb,h2,h3,h4⟩,h5,h6,λs hs=>?_,h8⟩;obtain⟨t,ht,hst,hnt⟩:=h7 s hs;exact⟨t,ht,hst.upd hu hS,hnt⟩
theorem jA.below{B:Nat}{w w':World}{b:Nat}{F:List ak}(h:jA B w b F)(hb:Below w.heap.size w w'):jA B w' b F:=by
 obtain⟨es,c,hm⟩:=h.blk;refine jA.upd (B:=B) (S:=λ_=>False) h ?_ (λh=>h) (λ_ h=>h.elim);exact(aH.of_below hb).mono (λi hi hle=>by omega)
theorem uQ{w w':World}{b:Nat}(h:w.mapTurned w' b):aH (λk=>k=b) w w'/\fB w' b:=by
 obtain⟨es,c,es',c',h1,rfl⟩:=h;refine⟨?_,es',c',?_⟩
 .have hg:=World.mapTurned.grown (w:=w) (b:=b) ⟨es,c,es',c',h1,rfl⟩
  exact⟨hg.os,hg.tape,hg.output,hg.size,λk hk hn=>hg.block k hk (by simpa using hn)⟩
 .simp[ChangeMaps.setBlock,aF h1]
theorem jA.put{B:Nat}{w:World}{b:Nat}{F:List ak}(h:jA B w b F){s:ak}(hn:s.text∉F.map ak.text){t:TV}(hst:bF w t s)(hnt:p9 B t)(hl:s.text.length<=maxLen)(hF:F.length<1000000):
 ∃w',(Instr.mapUpdate 142 (.map (some b)) (.string ⟨s.text.toArray⟩) (t.val s)).run Tryz.prog w= .ok () w'/\jA B w' b (F++[s])/\aH (λk=>k=b) w w':=by
 have hblk:=h.blk;obtain⟨D,h1,h2,h3,h4,h5⟩:=h;obtain⟨w',hrun,hown,htr⟩:=h1.store (t:=142) (e:=48) xJ Tryz.underlying142 (by rw[h2];unfold maxLen;omega) (J_ hl) (val:=t.val s) (d:=.held (t.val s)) (ps:=[]) rfl;obtain⟨hu,_⟩:=uQ htr;have hmb:∀k,k=b->fB w k:=λk hk=>by rw[hk];exact hblk
 have hnot:Maps.has D (.string s.text)=false:=by
  cases hh:Maps.has D (.string s.text)with
  |false=>rfl
  |true=>
   obtain⟨s',hs',e⟩:=h5 _ hh;exact absurd (dF.2 ⟨s',hs',(Lit.string.inj e).symm⟩) hn
 refine⟨w',hrun,⟨D.put (.string s.text) (.held (t.val s)),wN hown,?_,?_,?_,?_⟩,hu⟩
 .rw[Maps.size_put (h1.tidy xJ),hnot]
  simp[h2]
 .rw[tK,List.nodup_append]
  exact⟨h3,by simp,λa ha b hb e=>by simp at hb;rw[e,hb]at ha;exact hn ha⟩
 .intro x hx
  rcases dJ.1 hx with hx|hx
  .obtain⟨t',ht',hst',ajU⟩:=h4 x hx
   refine⟨t',λz=>?_,hst'.upd hu hmb,ajU⟩;rw[Maps.atKey_put_other (λe=>by injection e with e;exact hn (by rw[<-e];exact dF.2 ⟨x,hx,rfl⟩))];exact ht' z
  .rw[d_]at hx
   subst hx;exact⟨t,λz=>Maps.atKey_put_same h1.isMap (xJ.key (J_ hl)) _ _,hst.upd hu hmb,hnt⟩
 .intro k hk
  by_cases e:k= .string s.text
  .exact⟨s,by simp,e⟩
  .rw[Maps.has_put_other e]at hk
   obtain⟨s',hs',e'⟩:=h5 k hk;exact⟨s',List.mem_append_left _ hs',e'⟩
theorem jA.len{B:Nat}{w:World}{b:Nat}{F:List ak}(h:jA B w b F)(ty:TypeId):(Builtin.len_ #[142] ty #[.map (some b)]).run Tryz.prog w= .ok (.int .i64 (F.length:Nat)) w:=by
 obtain⟨D,h1,h2,_⟩:=h;rw[<-h2];exact h1.len (e:=48) Tryz.underlying142 ty
theorem Ms{v:Value}{d:DataW Value}{ps:List MemPlace}(h:R1 v=some (d,ps)):d= .held v:=by
 simp only[R1,Option.some.injEq,Prod.mk.injEq]at h;exact h.1.symm
theorem jA.look{B:Nat}{w:World}{b:Nat}{F:List ak}(h:jA B w b F){s:ak}(hs:s∈F)(hl:s.text.length<=maxLen):
 ∃t:TV,(Instr.lookup 142 (.map (some b)) (.string ⟨s.text.toArray⟩) false).run Tryz.prog w= .ok (t.val s) w/\bF w t s/\p9 B t:=by
 obtain⟨D,h1,h2,h3,h4,h5⟩:=h;obtain⟨t,ht,hst⟩:=h4 s hs;obtain⟨v,ps,hrun,hv⟩:=h1.lookup (t:=142) (e:=48) xJ Tryz.underlying142 (Ya w) (zd:=.held fV) (zp:=[]) rfl (J_ hl);have h6:=Ms hv;rw[ht]at h6;injection h6 with h6
 subst h6;exact⟨t,hrun,hst⟩
def stV(d:Int)(a1:Option Addr)(n1 c1:Nat)(a2:Option Addr)(n2 c2:Nat)(a3:Option Addr)(n3 c3:Nat):Value:=.agg #[.int .i64 d,.slice a1 n1 c1,.slice a2 n2 c2,.slice a3 n3 c3]
theorem jA.LV{B:Nat}{w:World}{b:Nat}{F:List ak}(h:jA B w b F){tx:List UInt8}(hl:tx.length<=maxLen):
 ∃d a1 n1 c1 a2 n2 c2 a3 n3 c3,(Instr.lookup 142 (.map (some b)) (.string ⟨tx.toArray⟩) true).run Tryz.prog w= .ok (.tuple #[stV d a1 n1 c1 a2 n2 c2 a3 n3 c3,.bool (decide (tx∈F.map ak.text))]) w:=by
 obtain⟨D,h1,h2,h3,h4,h5⟩:=h;obtain⟨v,ps,hrun,hv⟩:=h1.look_ok (t:=142) (e:=48) xJ Tryz.underlying142 (Ya w) (zd:=.held fV) (zp:=[]) rfl (J_ hl);have h6:=Ms hv;by_cases hm:tx∈F.map ak.text
 .obtain⟨s,hs,rfl⟩:=dF.1 hm
  obtain⟨t,ht,hst⟩:=h4 s hs;rw[ht]at h6;injection h6 with h6
  subst h6;rw[Maps.has_true_of_atKey ht]at hrun;refine⟨s.day,t.h.A,s.aj.length,t.h.c,t.u.A,s.used.length,t.u.c,t.m.A,s.marks.length,t.m.c,?_⟩;rw[decide_eq_true hm];exact hrun
 .have hnot:Maps.has D (.string tx)=false:=by
   cases hh:Maps.has D (.string tx)with
   |false=>rfl
   |true=>
    obtain⟨s',hs',e⟩:=h5 _ hh;exact absurd (dF.2 ⟨s',hs',(Lit.string.inj e).symm⟩) hm
  rw[Maps.atKey_of_not_has hnot]at h6;injection h6 with h6
  subst h6;rw[hnot]at hrun;refine⟨0,none,0,0,none,0,0,none,0,0,?_⟩;rw[decide_eq_false hm];exact hrun
theorem Ic{α:Type}[BEq α][LawfulBEq α]:∀{l1 l2:List α},l1.Nodup->l2.Nodup->(∀x,x∈l1↔x∈l2)->l1.Perm l2
 |[],l2,_,_,h=>by
  cases l2 with
  |nil=>exact List.Perm.nil
  |cons a l=>exact absurd ((h a).2 (by simp)) (by simp)
 |a::l1,l2,h1,h2,h=>by
  rw[List.nodup_cons]at h1;have ha:a∈l2:=(h a).1 (by simp);refine List.Perm.trans (List.Perm.cons a (Ic h1.2 (h2.erase a) (λx=>?_))) (List.perm_cons_erase ha).symm;rw[List.Nodup.mem_erase_iff h2];constructor
  .intro hx
   exact⟨λe=>h1.1 (e▸hx),(h x).1 (jf _ hx)⟩
  .rintro⟨hne,hx⟩
   rcases dI.1 ((h x).2 hx)with e|e
   .exact absurd e hne
   .exact e
theorem jA.keys{B:Nat}{w:World}{b:Nat}{F:List ak}(h:jA B w b F):∃D:DataW Value,w.ownsMap Tryz.prog 9 R1 b (Maps.size D) D/\Maps.size D=F.length/\(strKeys D).Perm (F.map ak.text):=by
 obtain⟨D,h1,h2,h3,h4,h5⟩:=h;refine⟨D,h1,h2,?_⟩;obtain⟨es,rfl,hap⟩:=h1.tidy xJ;have hkeys:∀p∈es,∃s∈F,p.1= .string s.text:=λp hp=>by
  have hlit:WideAt.IsKeyLit p.1:=by
   obtain⟨es',c,_,Ft,_,he⟩:=h1;injection he with he
   rw[he]at hp;obtain⟨v,hv⟩:=Maps.fit_keys Ft p ((WideShapes.sorted_perm _).mem_iff.1 hp);exact xJ.key hv
  have hh:Maps.has (DataW.map es) p.1=true:=by
   rw[Maps.has_eq,List.any_eq_true];exact⟨p,hp,WideAt.sameKey_self hlit⟩
  obtain⟨s,hs,e⟩:=h5 _ hh;exact⟨s,hs,e⟩
 refine Ic ?_ h3 (λx=>?_)
 .show(es.map λp=>strOf p.1).Nodup
  rw[List.Nodup,List.pairwise_map];refine List.Pairwise.imp_of_mem ?_ hap;intro p q hp hq hne e;obtain⟨s,_,hs⟩:=hkeys p hp;obtain⟨s',_,hs'⟩:=hkeys q hq;rw[hs,hs']at e hne;simp only[strOf]at e;exact hne (by rw[e])
 .show x∈es.map (λp=>strOf p.1)↔_
  constructor
  .intro hx
   obtain⟨p,hp,rfl⟩:=dF.1 hx;obtain⟨s,hs,e⟩:=hkeys p hp;rw[e];exact dF.2 ⟨s,hs,rfl⟩
  .intro hx
   obtain⟨s,hs,rfl⟩:=dF.1 hx;obtain⟨t,ht,_⟩:=h4 s hs;have hh:=Maps.has_true_of_atKey ht;rw[Maps.has_eq,List.any_eq_true]at hh;obtain⟨p,hp,hsame⟩:=hh;exact dF.2 ⟨p,hp,by rw[WideAt.sameKey_eq hsame];rfl⟩
end
section
open Go.RowKit Go.Shelf
attribute [local go_sem] Q0 stillUpon ni
theorem Tab.upd{S:Nat->Prop}{w w':World}(h:Tab w)(hu:aH S w w')(hS:∀k,S k->fB w k):Tab w':=by
 unfold Tab Lib.TabIs World.var? at*;cases hg:Tryz.prog.globalNamed "internal/strconv.uint64pow10" with
 |none=>simp[hg]at h
 |some g=>
  simp only[hg,Option.bind_some]at h⊢;have hlt:g<w.heap.size:=by
   rcases iO g w.heap.size with h'|h'
   .exact h'
   .rw[Array.getElem?_eq_none h']at h;simp at h
  have hn:¬S g:=λhs=>by
   obtain⟨es,c,hb⟩:=hS g hs;rw[hb]at h;simp at h
  rw[hu.block g hlt hn];exact h
theorem Rv{s:ak}(h:H8 s):s.text.length<=200000:=by
 have h1:=mJ h.day;have h2:=H9 h.aj;have h3:=OD h.marks;have h4:=h.lh;have h5:=h.lu;have h6:=h.lm;simp only[ak.text,pJ,xS];have h7:(uP s.used).length=s.used.length:=by simp[uP]
 omega
theorem OP{s:ak}(h:H8 s):s.text.length<=maxLen:=bL (Rv h) (by unfold maxLen;omega)
def qI(F:List ak)(s:ak):List ak:=cond (decide (s.text∈F.map ak.text)) F (F++[s])
def Rw(F G:List ak)(s:ak):List ak:=cond (decide (s.text∈F.map ak.text)) G (G++[s])
end
section
open Go.RowKit
inductive Reach (C:aB) (p:Int) (l:List ak):ak->Prop
 |base {s:ak}:s∈l->Reach C p l s
 |step {s:ak} {x:Int}:Reach C p l s->s.day<C.days->x∈C.hid s p->Reach C p l (C.next s x)
theorem OQ{C:aB}{s:ak}{i:Nat}{a:jg}(ha:C.acts[i]?=some a):C.next s i=C.act i a s:=by
 have h:((i:Int)== -1)=false:=by simp
 simp only[aB.next,h,cond_false,xg,ha]
theorem EN{C:aB}{s:ak}(hO:bR C s)(hd:s.day<C.days){i:Nat}(hi:i<C.acts.length):C.eP s i=0:=by
 have h1:C.gF s=true:=(jR C s).2 hO;have h2:decide ((i:Int)< -1)=false:=by simp
 have h3:decide ((C.acts.length:Int)<=(i:Int))=false:=by simp;omega
 have h4:(s.day==C.days)=false:=by simp;omega
 simp only[aB.eP,h1,h2,h3,h4,Bool.not_true,cond_false]
structure Inv(C:aB)(p:Int)(l F G X:List ak):Prop where
 ok:∀s∈F,bR C s
 reach:∀s∈F,Reach C p l s
 sub:∀s∈G,s∈F
 closed:∀s∈F,s∉G->s∉X->s.day<C.days->∀x∈C.hid s p,C.next s x∈F
theorem ko{F:List ak}{s x:ak}:x∈qI F s↔x∈F\/x=s:=by
 unfold qI;by_cases h:s∈F
 .rw[decide_eq_true (vS.2 h),cond_true]
  constructor
  .exact .inl
  .rintro(hx|rfl)
   .exact hx
   .exact h
 .rw[decide_eq_false (λhm=>h (vS.1 hm)),cond_false,dJ,d_]
theorem Yb{F G:List ak}{s x:ak}:x∈Rw F G s->x∈G\/x=s:=by
 unfold Rw;by_cases h:s∈F
 .rw[decide_eq_true (vS.2 h),cond_true]
  exact .inl
 .rw[decide_eq_false (λhm=>h (vS.1 hm)),cond_false,dJ,d_]
  exact id
theorem Yc{F G:List ak}{s x:ak}(hx:x∈G):x∈Rw F G s:=by
 unfold Rw;cases decide (s.text∈F.map ak.text)with
 |true=>exact hx
 |false=>exact List.mem_append_left _ hx
theorem Yd{F G:List ak}{s x:ak}(hx:x∈qI F s)(hn:x∉F):x∈Rw F G s:=by
 unfold Rw;unfold qI at hx;cases h:decide (s.text∈F.map ak.text)with
 |true=>rw[h]at hx;exact absurd hx hn
 |false=>
  rw[h,cond_false]at hx;rcases dJ.1 hx with hx|hx
  .exact absurd hx hn
  .exact List.mem_append_right _ hx
theorem Inv.meet{C:aB}{p:Int}{l F G X:List ak}(h:Inv C p l F G X){s:ak}(hs:bR C s)(hr:Reach C p l s):Inv C p l (qI F s) (Rw F G s) X:=by
 refine⟨λx hx=>?_,λx hx=>?_,λx hx=>?_,λx hx hg hX hd y hy=>?_⟩
 .rcases ko.1 hx with hx|rfl
  .exact h.ok x hx
  .exact hs
 .rcases ko.1 hx with hx|rfl
  .exact h.reach x hx
  .exact hr
 .rcases Yb hx with hx|rfl
  .exact ko.2 (.inl (h.sub x hx))
  .exact ko.2 (.inr rfl)
 .have hxF:x∈F:=Classical.byContradiction λhn=>hg (Yd hx hn)
  exact ko.2 (.inl (h.closed x hxF (λhm=>hg (Yc hm)) hX hd y hy))
theorem EO{G:List ak}{s x:ak}:x∈G.filter (λy=>y.text !=s.text)↔x∈G/\x≠s:=by
 rw[List.mem_filter];constructor
 .rintro⟨h1,h2⟩
  exact⟨h1,λe=>by subst e;simp at h2⟩
 .rintro⟨h1,h2⟩
  exact⟨h1,by simpa usingλe=>h2 (OJ e)⟩
theorem Inv.take{C:aB}{p:Int}{l F G:List ak}(h:Inv C p l F G [])(s:ak):Inv C p l F (G.filter (λy=>y.text !=s.text)) [s]:=by
 refine⟨h.ok,h.reach,λx hx=>h.sub x (EO.1 hx).1,λx hx hg hX hd y hy=>?_⟩;refine h.closed x hx (λhm=>hg (EO.2 ⟨hm,λe=>hX (by rw[e];simp)⟩)) (by simp) hd y hy
theorem Inv.done{C:aB}{p:Int}{l F G:List ak}{s:ak}(h:Inv C p l F G [s])(hc:s.day<C.days->∀x∈C.hid s p,C.next s x∈F):Inv C p l F G []:=by
 refine⟨h.ok,h.reach,h.sub,λx hx hg _ hd y hy=>?_⟩;by_cases e:x=s
 .subst e;exact hc hd y hy
 .exact h.closed x hx hg (by simpa using e) hd y hy
theorem Inv.start(C:aB)(p:Int)(l:List ak):Inv C p l [] [] []:=⟨by simp,by simp,by simp,by simp⟩
structure abK(C:aB)(p:Int)(l r:List ak):Prop where
 sorted:(r.map ak.text).Pairwise (· < ·)
 few:r.length<=300
 ok:∀s∈r,bR C s
 reach:∀s∈r,Reach C p l s
 has:∀s∈l,s∈r
 closed:∀s∈r,s.day<C.days->∀x∈C.hid s p,C.next s x∈r
def TG(C:aB)(p:Int)(l:List ak):Prop:=∃F:List ak,F.Nodup/\300<F.length/\∀s∈F,Reach C p l s
theorem cK.upd{S:Nat->Prop}{w w':World}{v:CV}{C:aB}(h:cK w v C)(hu:aH S w w')(hS:∀k,S k->fB w k):cK w' v C:=by
 refine⟨h.aj.upd (by omega) hu hS,h.units.upd (by omega) hu hS,h.acts.upd (by omega) hu hS,?_,h.off.upd (by omega) hu hS⟩;obtain⟨ss,h1,h2,h3⟩:=h.clauses;exact⟨ss,h1,h2.upd (by omega) hu hS,λi k t hk ht=>(h3 i k t hk ht).upd (by omega) hu hS⟩
theorem jI.upd{S:Nat->Prop}{w w':World}{v:SV}{l:List ak}(h:jI w v l)(hu:aH S w w')(hS:∀k,S k->fB w k):jI w' v l:=by
 obtain⟨ts,h1,h2,h3⟩:=h;exact⟨ts,h1,h2.upd (by omega) hu hS,λi s t hs ht=>(h3 i s t hs ht).upd hu hS⟩
theorem aH.EP{S:Nat->Prop}{w w':World}(hu:aH S w w')(hS:∀k,S k->fB w k){p o:Nat}{u:Value}(h:w.cell? ⟨p,o,none⟩=some u):w'.cell? ⟨p,o,none⟩=some u:=by
 have hl:=World.block_lt_of_cell? w _ h;have hn:¬S p:=λhs=>by
  obtain⟨es,c,hb⟩:=hS p hs;simp[World.cell?,hb]at h
 exact(hu.cell hl hn).trans h
end
section
open Go.RowKit Go.Shelf Go.Sort
def bG(B:Nat)(w:World)(v:SV)(l:List ak):Prop:=
 Aq B v/\∃ts:List TV,ts.length=l.length/\At w 4 v.A l.length v.c ((l.zip ts).flatMap (λp=>TV.cells p.2 p.1))/\∀(i:Nat)(s:ak)(t:TV),l[i]?=some s->ts[i]?=some t->bF w t s/\p9 B t
theorem bG.at{B:Nat}{w:World}{v:SV}{l:List ak}(h:bG B w v l):jI w v l:=by
 obtain⟨_,ts,h1,h2,h3⟩:=h;exact⟨ts,h1,h2,λi s t hs ht=>(h3 i s t hs ht).1⟩
theorem bG.below{B:Nat}{w w':World}{v:SV}{l:List ak}(h:bG B w v l)(hb:Below w.heap.size w w'):bG B w' v l:=by
 obtain⟨h0,ts,h1,h2,h3⟩:=h;exact⟨h0,ts,h1,h2.below (by omega) hb,λi s t hs ht=>⟨(h3 i s t hs ht).1.below hb,(h3 i s t hs ht).2⟩⟩
theorem bG.mono{B B':Nat}{w:World}{v:SV}{l:List ak}(h:bG B w v l)(hB:B'<=B):bG B' w v l:=by
 obtain⟨h0,ts,h1,h2,h3⟩:=h;exact⟨h0.mono hB,ts,h1,h2,λi s t hs ht=>⟨(h3 i s t hs ht).1,(h3 i s t hs ht).2.mono hB⟩⟩
theorem bG.upd{S:Nat->Prop}{B:Nat}{w w':World}{v:SV}{l:List ak}(h:bG B w v l)(hu:aH S w w')(hS:∀k,S k->fB w k):bG B w' v l:=by
 obtain⟨h0,ts,h1,h2,h3⟩:=h;exact⟨h0,ts,h1,h2.upd (by omega) hu hS,λi s t hs ht=>⟨(h3 i s t hs ht).1.upd hu hS,(h3 i s t hs ht).2⟩⟩
theorem bG.qH{S:Nat->Prop}{B:Nat}{w w':World}{v:SV}{l:List ak}(h:bG B w v l)(hu:aH S w w')(hS:∀k,S k->k<B):bG B w' v l:=by
 obtain⟨h0,ts,h1,h2,h3⟩:=h;exact⟨h0,ts,h1,h2.qH (by omega) h0 hu hS,λi s t hs ht=>⟨(h3 i s t hs ht).1.qH (h3 i s t hs ht).2 hu hS,(h3 i s t hs ht).2⟩⟩
theorem bG.form{B:Nat}{w:World}{v:SV}{l:List ak}(h:bG B w v l)(hl:0<l.length):
 ∃b off,v.A=some ⟨b,off,none⟩/\b<w.heap.size/\∀(i:Nat)(s:ak),l[i]?=some s->∃t:TV,(bF w t s/\p9 B t)/\∀W,Below w.heap.size w W->∀j,j<4->W.cell? ⟨b,off+i*4+j,none⟩=(t.cells s)[j]?:=by
 obtain⟨_,ts,h1,h2,h3⟩:=h;obtain⟨b,off,hA,hb,hc⟩:=h2.1.form hl (by omega);refine⟨b,off,hA,hb,λi s hs=>?_⟩;have hi:i<l.length:=(bC.1 hs).1;have ht:ts[i]?=some (ts[i]'(by omega)):=aW _;refine⟨ts[i]'(by omega),h3 i s _ hs ht,λW hW j hj=>?_⟩;rw[hW.cell (p:=⟨b,off+i*4+j,none⟩) hb,lV,hc _ (by omega)];have hz:(l.zip ts)[i]?=some (s,ts[i]'(by omega)):=by rw[Ei];exact⟨hs,ht⟩
 exact dh (λp:ak×TV=>TV.cells p.2 p.1) 4 (λ_=>rfl) (l.zip ts) i j _ hz hj
theorem Cv{F:List ak}(h:(F.map ak.text).Nodup):F.Nodup:=by
 unfold List.Nodup at h⊢;rw[List.pairwise_map]at h;exact h.imp (λhne e=>hne (by rw[e]))
theorem jA.nodup{B:Nat}{w:World}{b:Nat}{F:List ak}(h:jA B w b F):(F.map ak.text).Nodup:=by
 obtain⟨D,_,_,h3,_⟩:=h;exact h3
theorem strict{T:List (List UInt8)}(h:T.Pairwise (·<=·))(hn:T.Nodup):T.Pairwise (· < ·):=by
 unfold List.Nodup at hn;refine List.Pairwise.imp₂ ?_ h hn;intro a b h1 h2;rcases Decidable.em (a<b)with h3|h3
 .exact h3
 .exact absurd (List.le_antisymm h1 (List.not_lt.1 h3)) h2
def OT(s:ak)(w:World)(e:Ending)(w':World):Prop:=
 ∃(A1:Option Addr)(c1:Nat)(A2:Option Addr)(c2:Nat)(A3:Option Addr)(c3:Nat),e= .returned (.tuple #[.agg #[.int .i64 s.day,.slice A1 s.aj.length c1,.slice A2 s.used.length c2,.slice A3 s.marks.length c3],.int .i64 0])/\bF w' ⟨⟨A1,c1⟩,⟨A2,c2⟩,⟨A3,c3⟩⟩ s/\p9 w.heap.size ⟨⟨A1,c1⟩,⟨A2,c2⟩,⟨A3,c3⟩⟩/\Below w.heap.size w w'
theorem zK.ret{s:ak}{w:World}{e:Ending}{w':World}(h:zK 0 s w e w'):OT s w e w':=by
 obtain⟨hb,⟨_,t,rfl,hst,hnt⟩|⟨h0,_⟩⟩:=h
 .exact⟨t.h.A,t.h.c,t.u.A,t.u.c,t.m.A,t.m.c,rfl,hst,hnt,hb⟩
 .exact absurd rfl h0
theorem jA.ado{B:Nat}{w w':World}{b:Nat}{F:List ak}(h:jA B w b F)(hb:Below w.heap.size w w'){s:ak}(hs:s∈F)(hl:s.text.length<=maxLen):
 ∃t:TV,(Instr.lookup 142 (.map (some b)) (.string ⟨s.text.toArray⟩) false).run Tryz.prog w'= .ok (t.val s) w'/\bF w t s/\p9 B t:=by
 obtain⟨D,⟨es,clock,h1,r⟩,h2,h3,h4,h5⟩:=h;have hown:w'.ownsMap Tryz.prog 9 R1 b (Maps.size D) D:=⟨es,clock,(hb.block b (aF h1)).trans h1,r⟩;obtain⟨t,ht,hst⟩:=h4 s hs;obtain⟨v,ps,hrun,hv⟩:=hown.lookup (t:=142) (e:=48) xJ Tryz.underlying142 (Ya w') (zd:=.held fV) (zp:=[]) rfl (J_ hl);have h6:=Ms hv;rw[ht]at h6;injection h6 with h6
 subst h6;exact⟨t,hrun,hst⟩
theorem cells_one(l:List (ak×TV)):∀u∈l.flatMap (λp=>TV.cells p.2 p.1),u.oneCell'=true:=by
 intro u hu;obtain⟨p,_,hp⟩:=mU.1 hu;simp only[TV.cells,ak.cells,dI,gN,or_false]at hp;rcases hp with rfl|rfl|rfl|rfl<;>rfl
end
section
open Go.RowKit Go.Shelf Go.Sort
def TH(B:Nat)(C:aB)(p:Int)(l:List ak)(w:World)(e:Ending)(w':World):Prop:=
 Below w.heap.size w w'/\((∃(r:List ak)(A:Option Addr)(c:Nat),e= .returned (.tuple #[.slice A r.length c,.int .i64 0])/\bG B w' ⟨A,c⟩ r/\abK C p l r)\/(e= .returned (.tuple #[.slice none 0 0,.int .i64 3])/\TG C p l))
end
section
open Go.RowKit Go.Shelf
theorem TH.ret{B:Nat}{C:aB}{p:Int}{l:List ak}{w:World}{e:Ending}{w':World}(h:TH B C p l w e w'):∃(r:List ak)(A:Option Addr)(c:Nat)(er:Int),e= .returned (.tuple #[.slice A r.length c,.int .i64 er])/\Below w.heap.size w w'/\
 ((er=0/\bG B w' ⟨A,c⟩ r/\abK C p l r)\/(er=3/\A=none/\c=0/\r=[]/\TG C p l)):=by
 obtain⟨hb,⟨r,A,c,rfl,hs,hc⟩|⟨rfl,hm⟩⟩:=h
 .exact⟨r,A,c,0,rfl,hb,.inl ⟨rfl,hs,hc⟩⟩
 .exact⟨[],none,0,3,rfl,hb,.inr ⟨rfl,rfl,rfl,rfl,hm⟩⟩
def Mt(p:Int)(Ok:List ak->Prop)(Er:Int->Prop)(w:World)(e:Ending)(w':World):Prop:=
 ∃(q:Int)(A:Option Addr)(c:Nat)(r:List ak)(er:Int),e= .returned (.tuple #[.agg #[.int .i64 q,.slice A r.length c],.int .i64 er])/\Below w.heap.size w w'/\
  ((er=0/\q=p/\bG w.heap.size w' ⟨A,c⟩ r/\Ok r)\/(er≠0/\q=0/\A=none/\c=0/\r=[]/\Er er))
theorem Mt.mono{p:Int}{Ok Ok':List ak->Prop}{Er Er':Int->Prop}{w:World}{e:Ending}{w':World}(h:Mt p Ok Er w e w')(h1:∀r,Ok r->Ok' r)(h2:∀x,Er x->Er' x):Mt p Ok' Er' w e w':=by
 obtain⟨q,A,c,r,er,he,hb,h3⟩:=h;refine⟨q,A,c,r,er,he,hb,?_⟩;rcases h3 with⟨a,b,c,d⟩|⟨a,b,c,d,e,f⟩
 .exact .inl ⟨a,b,c,h1 r d⟩
 .exact .inr ⟨a,b,c,d,e,h2 _ f⟩
theorem bG.one{B:Nat}{w:World}{b:Nat}{s:ak}{t:TV}(hb:w.heap[b]?=some (.cells (t.cells s).toArray 48 (0,0)))(hs:bF w t s)(hn:p9 B t)(hB:B<=b):bG B w ⟨some ⟨b,0,none⟩,1⟩ [s]:=by
 refine⟨mG hB,[t],rfl,⟨⟨by simp[TV.cells,ak.cells],?_,λ_=>⟨_,rfl,λj u hj=>?_⟩⟩,(λh=>by cases h),bJ _,by unfold maxLen;simp⟩,λi x y hx hy=>?_⟩
 .intro u hu
  simp only[List.zip_cons_cons,List.zip_nil_right,pK,List.flatMap_nil,bV,TV.cells,ak.cells,dI,gN,or_false]at hu;rcases hu with rfl|rfl|rfl|rfl<;>rfl
 .rw[Addr.add_lit,aL _ _ (0+j) _ _ _ hb]
  simpa using hj
 .cases i with
  |zero=>
   simp at hx hy;rw[<-hx,<-hy];exact⟨hs,hn⟩
  |succ i=>simp at hx
end
section
open Go.RowKit Go.Shelf
def Sep(o:Option Nat)(w:World)(t:TV)(s:ak):Prop:=∀w',aH (λk=>some k=o) w w'->bF w' t s
theorem Sep.at{o:Option Nat}{w:World}{t:TV}{s:ak}(h:Sep o w t s):bF w t s:=h w (aH.refl _ _)
theorem Sep.below{o:Option Nat}{w w':World}{t:TV}{s:ak}(h:Sep o w t s)(hb:Below w.heap.size w w'):Sep o w' t s:=
 λ_ hu=>h _ (((aH.refl _ w).on hb).trans hu (λ_ _ h=>h))
def lN(B:Nat)(w:World)(v:Value)(R:List ak):Prop:=
 ∃ts:List TV,ts.length=R.length/\w.ownsRow B 48 4 v R.length ((R.zip ts).flatMap (λp=>TV.cells p.2 p.1))/\∀(i:Nat)(s:ak)(t:TV),R[i]?=some s->ts[i]?=some t->Sep v.ownBlock w t s/\p9 B t
theorem lN.nil(B:Nat)(w:World):lN B w (.slice none 0 0) []:=⟨[],rfl,World.ownsRow_nil _ _ _ _,λi s t hs=>by simp at hs⟩
theorem lN.below{B:Nat}{w w':World}{v:Value}{R:List ak}(h:lN B w v R)(hb:Below w.heap.size w w'):lN B w' v R:=by
 obtain⟨ts,h1,h2,h3⟩:=h;exact⟨ts,h1,ownsRow_below h2 hb,λi s t hs ht=>⟨(h3 i s t hs ht).1.below hb,(h3 i s t hs ht).2⟩⟩
theorem lN.ret{B:Nat}{w:World}{v:Value}{R:List ak}(h:lN B w v R):∃A c,v= .slice A R.length c/\bG B w ⟨A,c⟩ R:=by
 obtain⟨ts,h1,h2,h3⟩:=h;obtain⟨A,c,rfl,hAt⟩:=sI h2 (cells_one _);exact⟨A,c,rfl,λb off e=>(h2.lt b (by simp only at e;rw[e];rfl)).1,ts,h1,hAt,λi s t hs ht=>⟨(h3 i s t hs ht).1.at,(h3 i s t hs ht).2⟩⟩
theorem lN.sep{B:Nat}{w z z':World}{v:Value}{R:List ak}(h:lN B w v R)(hz:w.heap.size<=z.heap.size){t:TV}{s:ak}(hs:bF z' t s)(hn:p9 z.heap.size t):Sep v.ownBlock z' t s:=by
 obtain⟨ts,h1,h2,h3⟩:=h;exactλw' hu=>hs.qH hn hu (λk hk=>by have:=(h2.lt k hk.symm).2;omega)
def aB.qJ(C:aB)(x:Int):Prop:=x= -1\/(0<=x/\x<C.acts.length)
theorem DT{C:aB}{s:ak}{x:Int}(hx:C.qJ x)(hO:bR C s)(hd:s.day<C.days):C.eP s x=0/\bR C (C.next s x):=by
 rcases hx with rfl|⟨h0,h1⟩
 .refine⟨?_,?_⟩
  .have h1:C.gF s=true:=(jR C s).2 hO
   have h4:(s.day==C.days)=false:=by simp;omega
   have h3:decide ((C.acts.length:Int)<= -1)=false:=by simp;omega
   simp only[aB.eP,h1,h3,h4,Bool.not_true,cond_false];rfl
  .exact Tv hO hd
 .obtain⟨i,rfl⟩:∃i:Nat,x=i:=⟨x.toNat,by omega⟩
  have hi:i<C.acts.length:=by omega
  have ha:=aW hi;refine⟨EN hO hd hi,?_⟩;rw[OQ ha];exact Rh hO ha
end
section
open Go.RowKit Go.Shelf
def aB.DU(C:aB)(l:List Int):ak:=l.foldl (λs x=>C.next s x) C.first
structure Good(C:aB)(l:List Int):Prop where
 valid:C.valid=true
 len:l.length<=4000
 legal:∀(k:Nat)(x:Int),l[k]?=some x->C.eP (C.DU (l.take k)) x=0
def aB.trail(C:aB)(l:List Int)(k:Nat):List ak:=(List.range (k+1)).map (λi=>C.DU (l.take i))
theorem Ye(C:aB)(l:List Int)(x:Int):C.DU (l++[x])=C.next (C.DU l) x:=by unfold aB.DU;rw[tJ];rfl
theorem Ie{C:aB}{l:List Int}{k:Nat}{x:Int}(h:l[k]?=some x):C.DU (l.take (k+1))=C.next (C.DU (l.take k)) x:=by
 rw[take_snoc' h,Ye]
theorem DV(C:aB)(l:List Int)(k:Nat):(C.trail l k).length=k+1:=by simp[aB.trail]
theorem Rx(C:aB)(l:List Int)(k:Nat):C.trail l (k+1)=C.trail l k++[C.DU (l.take (k+1))]:=by
 unfold aB.trail;rw[List.range_succ (n:=k+1),tK];rfl
theorem Vm{C:aB}{l:List Int}{n k:Nat}(h:k<=n):(C.trail l n)[k]?=some (C.DU (l.take k)):=by
 unfold aB.trail;rw[fM,Ab (by omega)];rfl
theorem Mw{C:aB}{s:ak}{x:Int}(h:C.eP s x=0):bR C s/\s.day<C.days/\C.qJ x/\bR C (C.next s x):=by
 unfold aB.eP at h;cases h1:C.gF s with
 |false=>rw[h1]at h;cases h
 |true=>
  have hO:=(jR C s).1 h1;cases h2:decide (x< -1)with
  |true=>rw[h1,h2]at h;cases h
  |false=>
   cases h3:decide ((C.acts.length:Int)<=x)with
   |true=>rw[h1,h2,h3]at h;cases h
   |false=>
    cases h4:(s.day==C.days)with
    |true=>rw[h1,h2,h3,h4]at h;cases h
    |false=>
     rw[decide_eq_false_iff_not]at h2 h3;rw[beq_eq_false_iff_ne]at h4;have hd:=hO.XH;have hs:C.qJ x:=by
      by_cases e:x= -1
      .exact .inl e
      .exact .inr ⟨by omega,by omega⟩
     exact⟨hO,by omega,hs,(DT hs hO (by omega)).2⟩
theorem Good.ok{C:aB}{l:List Int}(h:Good C l):∀k,k<=l.length->bR C (C.DU (l.take k))
 |0,_=>by rw[bX];exact Co h.valid
 |k+1,hk=>by
  have hx:=aW (l:=l) (i:=k) (by omega);rw[Ie hx];exact(Mw (h.legal k _ hx)).2.2.2
theorem Good.take{C:aB}{l:List Int}(h:Good C l)(k:Nat):Good C (l.take k):=
 ⟨h.valid,by have:=h.len;rw[mV];omega,λj x hx=>by
  rw[lU]at hx;split at hx
  .rw[List.take_take,Nat.min_eq_left (by omega)];exact h.legal j x hx
  .cases hx⟩
def xK(o:Option Nat)(g:Nat)(w:World)(t:TV)(s:ak):Prop:=∀w',aH (λk=>some k=o\/k=g) w w'->bF w' t s
theorem xK.at{o:Option Nat}{g:Nat}{w:World}{t:TV}{s:ak}(h:xK o g w t s):bF w t s:=h w (aH.refl _ _)
theorem xK.below{o:Option Nat}{g:Nat}{w w':World}{t:TV}{s:ak}(h:xK o g w t s)(hb:Below w.heap.size w w'):xK o g w' t s:=
 λ_ hu=>h _ (((aH.refl _ w).on hb).trans hu (λ_ _ h=>h))
theorem xK.upd{o:Option Nat}{g:Nat}{w w':World}{t:TV}{s:ak}(h:xK o g w t s)(hu:aH (λk=>k=g) w w'):xK o g w' t s:=
 λ_ hv=>h _ ((hu.mono (λ_ _ e=>.inr e)).trans hv (λ_ _ h=>h))
def jE(g B:Nat)(w:World)(v:Value)(R:List ak):Prop:=
 (∀k,v.ownBlock=some k->k≠g)/\∃ts:List TV,ts.length=R.length/\w.ownsRow B 48 4 v R.length ((R.zip ts).flatMap (λp=>TV.cells p.2 p.1))/\∀(i:Nat)(s:ak)(t:TV),R[i]?=some s->ts[i]?=some t->xK v.ownBlock g w t s/\p9 B t
theorem jE.below{g B:Nat}{w w':World}{v:Value}{R:List ak}(h:jE g B w v R)(hb:Below w.heap.size w w'):jE g B w' v R:=by
 obtain⟨h0,ts,h1,h2,h3⟩:=h;exact⟨h0,ts,h1,ownsRow_below h2 hb,λi s t hs ht=>⟨(h3 i s t hs ht).1.below hb,(h3 i s t hs ht).2⟩⟩
theorem jE.upd{g B:Nat}{w w':World}{v:Value}{R:List ak}(h:jE g B w v R)(hu:aH (λk=>k=g) w w'):jE g B w' v R:=by
 obtain⟨h0,ts,h1,h2,h3⟩:=h;refine⟨h0,ts,h1,⟨h2.1,?_⟩,λi s t hs ht=>⟨(h3 i s t hs ht).1.upd hu,(h3 i s t hs ht).2⟩⟩;rcases h2.2 with e|⟨b,cap,cur,hv,hB,hg,r⟩
 .exact .inl e
 .exact .inr ⟨b,cap,cur,hv,hB,hu.keep hg (h0 b (by rw[hv];rfl)),r⟩
theorem jE.ret{g B:Nat}{w:World}{v:Value}{R:List ak}(h:jE g B w v R):∃A c,v= .slice A R.length c/\bG B w ⟨A,c⟩ R:=by
 obtain⟨_,ts,h1,h2,h3⟩:=h;obtain⟨A,c,rfl,hAt⟩:=sI h2 (cells_one _);exact⟨A,c,rfl,λb off e=>(h2.lt b (by simp only at e;rw[e];rfl)).1,ts,h1,hAt,λi s t hs ht=>⟨(h3 i s t hs ht).1.at,(h3 i s t hs ht).2⟩⟩
theorem jE.sep{g B:Nat}{w z z':World}{v:Value}{R:List ak}(h:jE g B w v R)(hg:g<z.heap.size)(hz:w.heap.size<=z.heap.size){t:TV}{s:ak}(hs:bF z' t s)(hn:p9 z.heap.size t):xK v.ownBlock g z' t s:=by
 obtain⟨_,ts,h1,h2,h3⟩:=h;exactλw' hu=>hs.qH hn hu (λk hk=>by
  rcases hk with hk|hk
  .have:=(h2.lt k hk.symm).2;omega
  .omega)
theorem yU{W:World}{ops:Array Oper}{rest:List Oper}{o:Oper}{a:Act}{Q:Exit->Act->World->Prop}
 (hg:o.guard=none)(so x:Operand)(hop:o.op=Op.call {callee:=Callee.builtin Builtin.append,args:=#[so,x],argTypes:=#[41,41]})
 (g B:Nat)(v:Value)(R:List ak)(hs:a.eval so=v)(hown:jE g B W v R)(t:TV)(s:ak)(hst:xK v.ownBlock g W t s)(hnt:p9 B t)(arr:Array Value)(harr:arr=(t.cells s).toArray)
 (hx:a.eval x= .slice (some ⟨W.heap.size,0,none⟩) 1 1)(hlen:R.length<=1000000)(hBW:B<=W.heap.size)(hgW:g<W.heap.size)
 (hK:∀A' c' w',jE g B w' (.slice A' (R++[s]).length c') (R++[s])->xK (Value.slice A' (R++[s]).length c').ownBlock g w' t s->Below B W w'->w'.heap[g]?=W.heap[g]?->wpList Tryz.prog ops Q rest (a.put o.dst (.slice A' (R++[s]).length c')) w'):
 wpList Tryz.prog ops Q (o::rest) a (W.alloc (.cells arr 48)):=by
 subst harr;obtain⟨h0,ts,h1,h2,h3⟩:=hown;obtain⟨is,hsi,hsz,hss,hsb⟩:=info_parts' (P:=Tryz.prog) (t:=48) (z:=some fV) (s:=4) (b:=80) (by kernel_rfl);have hba:Below W.heap.size W (W.alloc (.cells (t.cells s).toArray 48)):=aN (aC _ _) _;refine wpList_append_own_at _ hg so x 41 hop B 48 is fV 4 80 Tryz.underlying41 hsi hsz hss hsb rfl (by decide) v R.length _ hs (World.ownsRow.alloc h2 _) ⟨W.heap.size,0,none⟩ 1 1 (t.cells s) hx rfl
  (λj u hj=>by
   rw[Addr.add_lit,aL _ _ (0+j) _ _ _ (bQ W _)];simpa using hj) (by
   intro u hu;simp only[TV.cells,ak.cells,dI,gN,or_false]at hu;rcases hu with rfl|rfl|rfl|rfl<;>rfl) (by unfold maxLen;omega) (by omega) (by simp;omega) ?_
 intro v' w' hown' hgrow _ hblk;have adp:aH (λk=>some k=v.ownBlock\/k=g) (W.alloc (.cells (t.cells s).toArray 48)) w':=⟨hgrow.os,hgrow.tape,hgrow.output,hgrow.size,λk hk hn=>hgrow.block k hk (λe=>hn (.inl e))⟩;have hsep:∀(t':TV)(s':ak),xK v.ownBlock g W t' s'->xK v'.ownBlock g w' t' s':=λt' s' h w'' hu=>
  (h.below hba) w'' (adp.trans hu (λi hi e=>by
   rcases e with e|e
   .rcases hblk with hblk|hblk
    .rw[<-hblk];exact .inl e
    .rw[hblk]at e;injection e with e;omega
   .exact .inr e))
 suffices hso:jE g B w' v' (R++[s])/\Below B W w'/\w'.heap[g]?=W.heap[g]? by
  obtain⟨A',c',e,_⟩:=hso.1.ret;subst e;exact hK A' c' w' hso.1 (hsep _ _ hst) hso.2.1 hso.2.2
 refine⟨⟨?_,ts++[t],by simp[h1],?_,λi x' t' hx' ht'=>?_⟩,?_,?_⟩
 .intro k hk
  rcases hblk with hblk|hblk
  .rw[hblk]at hk;exact h0 k hk
  .rw[hblk]at hk;injection hk with hk;simp at hk;omega
 .rw[List.zip_append h1.symm,Ef,pJ,xS]
  simpa using hown'
 .by_cases hi:i<R.length
  .rw[nG hi]at hx'
   rw[nG (by rw[h1];exact hi)]at ht';exact⟨hsep _ _ (h3 i x' t' hx' ht').1,(h3 i x' t' hx' ht').2⟩
  .rw[qL (by omega)]at hx'
   rw[qL (by rw[h1];omega),h1]at ht';cases hk:i - R.length with
   |zero=>
    rw[hk]at hx' ht';simp at hx' ht';rw[<-hx',<-ht'];exact⟨hsep _ _ hst,hnt⟩
   |succ q=>rw[hk]at hx';simp at hx'
 .exact((aC _ W).alloc hBW _).grown hgrow (by simp;omega) (λk hk=>(h2.lt k hk).1)
 .rw[hgrow.block g (by simp;omega) (λe=>h0 g e.symm rfl)]
  exact hba.block g hgW
def aam(C:aB)(l:List Int)(w:World)(e:Ending)(w':World):Prop:=
 ∃(A:Option Addr)(c:Nat)(R:List ak)(er:Int),e= .returned (.tuple #[.slice A R.length c,.int .i64 er])/\Below w.heap.size w w'/\
  ((er=0/\Good C l/\R=C.trail l l.length/\bG w.heap.size w' ⟨A,c⟩ R)\/(er≠0/\¬Good C l/\A=none/\c=0/\R=[]))
end
open Go.RowKit Go.Shelf
theorem frozen_of_row{w:World}{g:Nat}{cs:Array Value}{t:TypeId}(h:w.heap[g]?=some (.cells cs t (0,0)))(i:Nat):w.frozen? ⟨g,i,none⟩=false:=by simp[World.frozen?,h]
theorem Yf{w W:World}{g:Nat}{y0 y1 y2 y3 x0 x1 x2 x3:Value}{t:TypeId}(h:w.heap[g]?=some (.cells #[y0,y1,y2,y3] t (0,0)))
 (hW:W=(((w.setCell ⟨g,0,none⟩ x0).setCell ⟨g,1,none⟩ x1).setCell ⟨g,2,none⟩ x2).setCell ⟨g,3,none⟩ x3):W.heap[g]?=some (.cells #[x0,x1,x2,x3] t (0,0)):=by
 subst hW;have one:∀{w:World}{cs:Array Value}(i:Nat)(x:Value),w.heap[g]?=some (.cells cs t (0,0))->(w.setCell ⟨g,i,none⟩ x).heap[g]?=some (.cells (cs.setIfInBounds i x) t (0,0)):=λ{w cs} i x h=>by
  simp[World.setCell,Array.getElem?_modify,h]
 exact one 3 x3 (one 2 x2 (one 1 x1 (one 0 x0 h)))
theorem TI(v:CV)(C:aB)(lv:SV)(l:List Int)(w:World)(hC:cK w v C)(hV:At w 1 lv.A l.length lv.c (aY l)):Calls Tryz.prog 15 #[v.val C,.slice lv.A l.length lv.c] w (aam C l w):=by
 obtain⟨⟨g_,h_⟩,⟨ig,iq⟩,⟨jk,gD⟩,⟨iM,gB⟩,⟨gT,gU⟩⟩:=v;obtain⟨lA,lc⟩:=lv;have hlx:l.length<=9223372036854775807:=by have h1:=hV.2.2.1;have h2:=hV.2.2.2;unfold maxLen at h2;omega
 have HC:=ah hC;clear hC;have HL:=ah hV;clear hV;simp only[CV.val,CV.cells];go_enter Tryz.func15,Tryz.ntmps15;go_upto_region 1 with(fail)
 generalize hW0:World.alloc _ _=W0;obtain⟨HB,hh0⟩:=bx1 hW0;clear hW0;obtain⟨j5,j6,kE,lg,lq,l7,ny⟩:=Jt hh0;clear hh0;change Code.wp _ _ _ _ (Bl.val (⟨W0,aC _ _⟩:Bl W0));generalize(⟨W0,aC _ _⟩:Bl W0)=s0;have HBG:=ah (λz:Bl W0=>KT (⟨⟨g_,h_⟩,⟨ig,iq⟩,⟨jk,gD⟩,⟨iM,gB⟩,⟨gT,gU⟩⟩:CV) C z.val (HC.out.below (ay HB.out z.prop)));simp only[CV.val,CV.cells]at HBG;cases qv:C.valid with
 |false=>
  rw[qv]at HBG;have HNG:Hid (¬Good C l):=λh=>by rw[h.valid]at qv;cases qv
  have BI:Hid (∀z:Bl W0,Calls Tryz.prog 38 #[.agg #[.int .i64 C.aJ,.slice g_ C.aj.length h_,.slice ig C.units.length iq,.slice jk C.acts.length gD,.slice iM C.clauses.length gB,.int .i64 C.days,.slice gT C.off.length gU]] z.val (λe w'=>e= .returned (.tuple #[.agg #[.int .i64 0,.slice none 0 0,.slice none 0 0,.slice none 0 0],.int .i64 1])/\Below z.val.heap.size z.val w')):=λz=>(HBG.out z).mono (by
   rintro e w' ⟨hb,⟨h0,_⟩|⟨_,he⟩⟩
   .cases h0
   .exact⟨he,hb⟩)
  go_wp2_with (go_at_call 38;refine(BI.out _).mono ?_;rintro e z1 ⟨rfl,hz⟩;obtain⟨z1,rfl⟩:=Bl.on hz;clear hz)
  go_ret2
  exact⟨none,0,[],1,rfl,ay HB.out (aN (Bl.prop _) _),.inr ⟨by decide,HNG.out,rfl,rfl,rfl⟩⟩
 |true=>
  rw[qv]at HBG;have BI:=ah (λz:Bl W0=>(HBG.out z).mono (λ_ _ h=>h.ret));generalize hfs:C.first=s1 at BI;have Zl:=ah hfs;clear hfs;go_wp2_with (go_at_call 38;refine(BI.out _).mono ?_;rintro e z1 ⟨TJ,TK,TL,TM,TN,TP,rfl,hst,hnt,hz⟩;refine Hid.out ?_);refine ah ?_;obtain⟨zb,Vn⟩:∃zb:Bl W0,Hid (Below zb.val.heap.size zb.val z1/\p9 zb.val.heap.size (⟨⟨TJ,TK⟩,⟨TL,TM⟩,⟨TN,TP⟩⟩:TV)):=⟨_,hz,hnt⟩;have HST:=ah hst;clear hz hnt hst;go_upto_region 2 with(fail)
  obtain⟨Wg,WA⟩:∃Wg,Hid (Wg=z1.alloc (.cells #[.int .i64 s1.day,.slice TJ s1.aj.length TK,.slice TL s1.used.length TM,.slice TN s1.marks.length TP] 48)):=⟨_,rfl⟩;rw[<-WA.out];have hbg:Below z1.heap.size z1 Wg:=by rw[WA.out];exact aN (aC _ _) _
  have hxg:Wg.heap[z1.heap.size]?=some (.cells #[.int .i64 s1.day,.slice TJ s1.aj.length TK,.slice TL s1.used.length TM,.slice TN s1.marks.length TP] 48 (0,0)):=by rw[WA.out];exact bQ z1 _
  obtain⟨g,HG⟩:∃g,Hid (g=z1.heap.size):=⟨_,rfl⟩;have nC:Hid (Below W0.heap.size W0 Wg):=ay (ay zb.prop Vn.out.1) hbg;have Qo:Hid (p9 W0.heap.size (⟨⟨TJ,TK⟩,⟨TL,TM⟩,⟨TN,TP⟩⟩:TV)):=Vn.out.2.mono zb.prop.size;have g0:Wg.cell? ⟨z1.heap.size,0,none⟩=some (.int .i64 s1.day):=(aL Wg _ 0 _ _ _ hxg).trans rfl;have g1:Wg.cell? ⟨z1.heap.size,1,none⟩=some (.slice TJ s1.aj.length TK):=(aL Wg _ 1 _ _ _ hxg).trans rfl;have g2:Wg.cell? ⟨z1.heap.size,2,none⟩=some (.slice TL s1.used.length TM):=(aL Wg _ 2 _ _ _ hxg).trans rfl;have g3:Wg.cell? ⟨z1.heap.size,3,none⟩=some (.slice TN s1.marks.length TP):=(aL Wg _ 3 _ _ _ hxg).trans rfl;cases q4:decide ((4000:Int)<(l.length:Int))with
  |true=>
   have HNG:Hid (¬Good C l):=λh=>by have:=h.len;rw[decide_eq_true_eq]at q4;omega
   go_wp2
   go_ret2
   exact⟨none,0,[],3,rfl,ay HB.out nC.out,.inr ⟨by decide,HNG.out,rfl,rfl,rfl⟩⟩
  |false=>
   have HL4:Hid (l.length<=4000):=by show l.length<=4000;rw[decide_eq_false_iff_not]at q4;omega
   go_upto_region 7 with(fail)
   have HRW:Hid (jE g W0.heap.size (Wg.alloc (.cells #[.int .i64 s1.day,.slice TJ s1.aj.length TK,.slice TL s1.used.length TM,.slice TN s1.marks.length TP] 48)) (.slice (some ⟨Wg.heap.size,0,none⟩) [s1].length 1) [s1]/\xK (Value.slice (some ⟨Wg.heap.size,0,none⟩) [s1].length 1).ownBlock g (Wg.alloc (.cells #[.int .i64 s1.day,.slice TJ s1.aj.length TK,.slice TL s1.used.length TM,.slice TN s1.marks.length TP] 48)) (⟨⟨TJ,TK⟩,⟨TL,TM⟩,⟨TN,TP⟩⟩:TV) s1):=by
    have hgl:=aF hxg;have hsep:xK (some Wg.heap.size) g (Wg.alloc (.cells #[.int .i64 s1.day,.slice TJ s1.aj.length TK,.slice TL s1.used.length TM,.slice TN s1.marks.length TP] 48)) (⟨⟨TJ,TK⟩,⟨TL,TM⟩,⟨TN,TP⟩⟩:TV) s1:=λw' hu=>
     HST.out.below ((hbg.trans ((aN (aC _ Wg) _).mono hbg.size)).trans (hu.below (by simp;omega) (λk hk=>by
      have h1:=HG.out;have h2:=hbg.size;rcases hk with hk|hk
      .injection hk with hk;omega
      .omega)))
    refine⟨⟨λk hk=>?_,[(⟨⟨TJ,TK⟩,⟨TL,TM⟩,⟨TN,TP⟩⟩:TV)],rfl,⟨rfl,.inr ⟨Wg.heap.size,1,_,rfl,nC.out.size,bQ Wg _,bJ _,by decide,rfl,rfl⟩⟩,λi s t hs ht=>?_⟩,hsep⟩
    .have h1:=HG.out
     injection hk with hk
     simp only at hk;omega
    .cases i with
     |zero=>simp at hs ht;subst hs ht;exact⟨hsep,Qo.out⟩
     |succ i=>simp at hs
   obtain⟨Wr,HWr⟩:∃Wr,Hid (Wr=Wg.alloc (.cells #[.int .i64 s1.day,.slice TJ s1.aj.length TK,.slice TL s1.used.length TM,.slice TN s1.marks.length TP] 48)):=⟨_,rfl⟩;rw[<-HWr.out]at HRW⊢;have hbr:Below Wg.heap.size Wg Wr:=by rw[HWr.out];exact aN (aC _ _) _
   have HXG:Hid (Wr.heap[g]?=some (.cells #[.int .i64 s1.day,.slice TJ s1.aj.length TK,.slice TL s1.used.length TM,.slice TN s1.marks.length TP] 48 (0,0))):=by show _=_;rw[HG.out,hbr.block _ (aF hxg)];exact hxg
   have HPR:Hid (Below W0.heap.size W0 Wr):=ay nC.out hbr;have HGW:Hid (W0.heap.size<=g):=by show _<=_;rw[HG.out];exact(ay zb.prop Vn.out.1).size
   rw[<-HG.out];clear hbr g0 g1 g2 g3 hxg hbg;go_wp2
   go_loopg [26,8] l.length (λgk v26 v8 wr=>∃(k:Nat)(R:List ak)(A8:Option Addr)(c8:Nat)(s:ak)(jw:Option Addr)(iJ:Nat)(jN:Option Addr)(iC:Nat)(kP:Option Addr)(fK:Nat),gk=l.length - k/\k<=l.length/\v26= .int .i64 k/\v8= .slice A8 R.length c8/\Hid (R=C.trail l k/\s=C.DU (l.take k))/\Hid (∀(i:Nat)(x:Int),i<k->l[i]?=some x->C.eP (C.DU (l.take i)) x=0)/\Hid (jE g W0.heap.size wr (.slice A8 R.length c8) R)/\Hid (xK (Value.slice A8 R.length c8).ownBlock g wr (⟨⟨jw,iJ⟩,⟨jN,iC⟩,⟨kP,fK⟩⟩:TV) s)/\Hid (wr.heap[g]?=some (.cells #[.int .i64 s.day,.slice jw s.aj.length iJ,.slice jN s.used.length iC,.slice kP s.marks.length fK] 48 (0,0)))/\Hid (Below W0.heap.size W0 wr))
   case atStart=>exact⟨0,[s1],_,_,s1,TJ,TK,TL,TM,TN,TP,rfl,aZ _,rfl,rfl,⟨by rw[<-Zl.out];rfl,Zl.out.symm⟩,(λi x h=>by omega),HRW.out.1,HRW.out.2,HXG.out,HPR.out⟩
   case round=>
    obtain⟨k,R,A8,c8,s,jw,iJ,jN,iC,kP,fK,eZ,hk,rfl,rfl,HR,Wy,HN,Ry,HX,HW⟩:=hrel;have iL:=ah eZ;clear eZ;by_cases hlt:k<l.length
    .obtain⟨x,hx⟩:∃x,l[k]?=some x:=⟨_,aW hlt⟩
     obtain⟨lb,lo,hA,hlb,hlc⟩:=(HL.out.below (by omega) (ay HB.out HW.out)).1.form (by omega) (by omega);try simp only at hA
     subst hA;have cl:wr.cell? ⟨lb,lo+k,none⟩=some (.int .i64 x):=by rw[hlc k (by omega)];simp only[aY,fM,hx,kG]
     have HXK:=ah hx;clear hx hlc;have k1:(k:Int)<(l.length:Int):=by omega
     have y0:=xE HW.out j5;have y1:=xE HW.out j6;have y2:=xE HW.out kE;have y3:=xE HW.out lg;have y4:=xE HW.out lq;have y5:=xE HW.out l7;have y6:=xE HW.out ny;have d0:∀z:Bl wr,z.val.cell? ⟨g,0,none⟩=some (.int .i64 s.day):=λz=>z.cell ((aL wr _ 0 _ _ _ HX.out).trans rfl);have d1:∀z:Bl wr,z.val.cell? ⟨g,1,none⟩=some (.slice jw s.aj.length iJ):=λz=>z.cell ((aL wr _ 1 _ _ _ HX.out).trans rfl);have d2:∀z:Bl wr,z.val.cell? ⟨g,2,none⟩=some (.slice jN s.used.length iC):=λz=>z.cell ((aL wr _ 2 _ _ _ HX.out).trans rfl);have d3:∀z:Bl wr,z.val.cell? ⟨g,3,none⟩=some (.slice kP s.marks.length fK):=λz=>z.cell ((aL wr _ 3 _ _ _ HX.out).trans rfl);have Vo:=ah (λz:Bl wr=>Ib (⟨⟨g_,h_⟩,⟨ig,iq⟩,⟨jk,gD⟩,⟨iM,gB⟩,⟨gT,gU⟩⟩:CV) C (⟨⟨jw,iJ⟩,⟨jN,iC⟩,⟨kP,fK⟩⟩:TV) s x z.val (HC.out.below (ay HB.out (ay HW.out z.prop))) (Ry.out.at.below z.prop));simp only[CV.val,CV.cells,TV.val,TV.cells,ak.cells]at Vo;have Vp:=ah (aF HX.out);obtain⟨za,hza⟩:∃za:Bl wr,za.val=wr:=⟨⟨wr,aC _ _⟩,rfl⟩;rw[<-hza]at cl⊢;clear hza;by_cases he:C.eP s x=0
     .have HE:=ah he;clear he
      have aan:=ah (λz:Bl wr=>by have h:=Vo.out z;rw[HE.out]at h;exact h.mono (λ_ _ h=>h.ret));clear Vo;generalize hs':C.next s x=s' at aan;have uf:=ah hs';clear hs';go_wp2_with (go_at_call 39;refine(aan.out _).mono ?_;rintro e z2 ⟨xhA,xhc,xuA,xuc,xmA,xmc,rfl,OU,OV,hz2⟩;refine Hid.out ?_);refine ah ?_;obtain⟨zc,HZC⟩:∃zc:Bl wr,Hid (Below zc.val.heap.size zc.val z2/\p9 zc.val.heap.size (⟨⟨xhA,xhc⟩,⟨xuA,xuc⟩,⟨xmA,xmc⟩⟩:TV)/\bF z2 (⟨⟨xhA,xhc⟩,⟨xuA,xuc⟩,⟨xmA,xmc⟩⟩:TV) s'):=⟨_,hz2,OV,OU⟩;have hpz:Below wr.heap.size wr z2:=ay zc.prop HZC.out.1;clear hz2 OV OU cl;have e0:=d0 ⟨z2,hpz⟩;have f0:z2.frozen? ⟨g,0,none⟩=false:=frozen_of_row ((hpz.block g Vp.out).trans HX.out) 0;have e1:=d1 ⟨z2,hpz⟩;have f1:z2.frozen? ⟨g,1,none⟩=false:=frozen_of_row ((hpz.block g Vp.out).trans HX.out) 1;have e2:=d2 ⟨z2,hpz⟩;have f2:z2.frozen? ⟨g,2,none⟩=false:=frozen_of_row ((hpz.block g Vp.out).trans HX.out) 2;have e3:=d3 ⟨z2,hpz⟩;have f3:z2.frozen? ⟨g,3,none⟩=false:=frozen_of_row ((hpz.block g Vp.out).trans HX.out) 3;simp only at e0 e1 e2 e3;go_upto_region 11 with(fail)
      obtain⟨Wb,Zo⟩:∃Wb,Hid (Wb=(((z2.setCell ⟨g,0,none⟩ (.int .i64 s'.day)).setCell ⟨g,1,none⟩ (.slice xhA s'.aj.length xhc)).setCell ⟨g,2,none⟩ (.slice xuA s'.used.length xuc)).setCell ⟨g,3,none⟩ (.slice xmA s'.marks.length xmc)):=⟨_,rfl⟩;rw[<-Zo.out];obtain⟨b0,b1,b2,b3,hub⟩:=pF e0 e1 e2 e3 Zo.out;have HXB:Hid (Wb.heap[g]?=some (.cells #[.int .i64 s'.day,.slice xhA s'.aj.length xhc,.slice xuA s'.used.length xuc,.slice xmA s'.marks.length xmc] 48 (0,0))):=Yf ((hpz.block g Vp.out).trans HX.out) Zo.out;have X_:Hid (jE g W0.heap.size Wb (.slice A8 R.length c8) R):=(HN.out.below hpz).upd hub;have xI:Hid (xK (Value.slice A8 R.length c8).ownBlock g Wb (⟨⟨xhA,xhc⟩,⟨xuA,xuc⟩,⟨xmA,xmc⟩⟩:TV) s'):=(HN.out.sep (z:=zc.val) (by have:=zc.prop.size;have:=Vp.out;omega) zc.prop.size HZC.out.2.2 HZC.out.2.1).upd hub;have ajX:Hid (p9 W0.heap.size (⟨⟨xhA,xhc⟩,⟨xuA,xuc⟩,⟨xmA,xmc⟩⟩:TV)):=HZC.out.2.1.mono (by have:=zc.prop.size;have:=HW.out.size;omega);have HWB:Hid (Below W0.heap.size W0 Wb):=(ay HW.out hpz).trans (hub.below (by have:=hpz.size;have:=HW.out.size;omega) (λk hk=>by have:=HGW.out;omega));have hbw:=HWB.out.size;have hgw:g<Wb.heap.size:=aF HXB.out;have hrl2:R.length<=1000000:=by have h1:=HL4.out;rw[HR.out.1,DV];omega
      clear e0 e1 e2 e3 f0 f1 f2 f3 hpz hub d0 d1 d2 d3;go_wp2_with (at_builtin;refine yU rfl _ _ rfl g W0.heap.size (.slice A8 R.length c8) R rfl X_.out (⟨⟨xhA,xhc⟩,⟨xuA,xuc⟩,⟨xmA,xmc⟩⟩:TV) s' xI.out ajX.out _ rfl rfl hrl2 hbw hgw ?_;intro A9 c9 w9 h1 h2 h3 h4;refine Hid.out ?_);refine ah ?_;have HN9:=ah h1;have HS9:=ah h2;have HW9:Hid (Below W0.heap.size W0 w9):=HWB.out.trans h3;have HX9:Hid (w9.heap[g]?=some (.cells #[.int .i64 s'.day,.slice xhA s'.aj.length xhc,.slice xuA s'.used.length xuc,.slice xmA s'.marks.length xmc] 48 (0,0))):=h4.trans HXB.out;have HR9:Hid (R++[s']=C.trail l (k+1)/\s'=C.DU (l.take (k+1))):=by
       have h5:s'=C.DU (l.take (k+1)):=by rw[Ie HXK.out,<-HR.out.2];exact uf.out.symm
       exact⟨by rw[Rx,<-HR.out.1,<-h5],h5⟩
      have HL9:Hid (∀(i:Nat)(x:Int),i<k+1->l[i]?=some x->C.eP (C.DU (l.take i)) x=0):=λi x' hi hx'=>by
       by_cases e:i=k
       .subst e
        rw[HXK.out]at hx';cases hx'
        rw[<-HR.out.2];exact HE.out
       .exact Wy.out i x' (by omega) hx'
      clear h1 h2 h3 h4 b0 b1 b2 b3;go_wp2
      go_roundg (l.length - (k+1))
      case measure=>rw[iL.out];omega
      case rel=>exact⟨k+1,R++[s'],A9,c9,s',xhA,xhc,xuA,xuc,xmA,xmc,rfl,by omega,by go_num,by simp,HR9,HL9,HN9,HS9,HX9,HW9⟩
     .have HNG:Hid (¬Good C l):=λh=>he (by rw[HR.out.2];exact h.legal k x HXK.out)
      generalize hee:C.eP s x=er at Vo he;have aan:Hid (∀z:Bl wr,Calls Tryz.prog 39 #[.agg #[.int .i64 C.aJ,.slice g_ C.aj.length h_,.slice ig C.units.length iq,.slice jk C.acts.length gD,.slice iM C.clauses.length gB,.int .i64 C.days,.slice gT C.off.length gU],.agg #[.int .i64 s.day,.slice jw s.aj.length iJ,.slice jN s.used.length iC,.slice kP s.marks.length fK],.int .i64 x] z.val (λe w'=>e= .returned (.tuple #[.agg #[.int .i64 0,.slice none 0 0,.slice none 0 0,.slice none 0 0],.int .i64 er])/\Below z.val.heap.size z.val w')):=λz=>(Vo.out z).mono (by
       rintro e w' ⟨hb,⟨h0,_⟩|⟨_,he⟩⟩
       .exact absurd h0 he
       .exact⟨he,hb⟩)
      have hen:(er !=0)=true:=by simpa using he
      have Qp:=ah he;clear Vo hee;go_wp2_with (go_at_call 39;refine(aan.out _).mono ?_;rintro e z2 ⟨rfl,hz2⟩;refine Hid.out ?_);refine ah ?_;obtain⟨zc,HZC⟩:∃zc:Bl wr,Hid (Below zc.val.heap.size zc.val z2):=⟨_,hz2⟩;have hpz:Below wr.heap.size wr z2:=ay zc.prop HZC.out;clear hz2 cl;have e0:=d0 ⟨z2,hpz⟩;have f0:z2.frozen? ⟨g,0,none⟩=false:=frozen_of_row ((hpz.block g Vp.out).trans HX.out) 0;have e1:=d1 ⟨z2,hpz⟩;have f1:z2.frozen? ⟨g,1,none⟩=false:=frozen_of_row ((hpz.block g Vp.out).trans HX.out) 1;have e2:=d2 ⟨z2,hpz⟩;have f2:z2.frozen? ⟨g,2,none⟩=false:=frozen_of_row ((hpz.block g Vp.out).trans HX.out) 2;have e3:=d3 ⟨z2,hpz⟩;have f3:z2.frozen? ⟨g,3,none⟩=false:=frozen_of_row ((hpz.block g Vp.out).trans HX.out) 3;simp only at e0 e1 e2 e3;go_upto_region 11 with(fail)
      obtain⟨Wb,Zo⟩:∃Wb,Hid (Wb=(((z2.setCell ⟨g,0,none⟩ (.int .i64 0)).setCell ⟨g,1,none⟩ (.slice none 0 0)).setCell ⟨g,2,none⟩ (.slice none 0 0)).setCell ⟨g,3,none⟩ (.slice none 0 0)):=⟨_,rfl⟩;rw[<-Zo.out];obtain⟨b0,b1,b2,b3,hub⟩:=pF e0 e1 e2 e3 Zo.out;have HWB:Hid (Below W0.heap.size W0 Wb):=(ay HW.out hpz).trans (hub.below (by have:=hpz.size;have:=HW.out.size;omega) (λk hk=>by have:=HGW.out;omega));clear e0 e1 e2 e3 f0 f1 f2 f3 hpz hub;go_wp2
      go_ret2
      exact⟨none,0,[],er,rfl,ay HB.out HWB.out,.inr ⟨Qp.out,HNG.out,rfl,rfl,rfl⟩⟩
    .obtain rfl:k=l.length:=by omega
     obtain⟨nA,nc,hv8,hN⟩:=HN.out.ret;have Nv:Hid (bG W0.heap.size wr ⟨A8,c8⟩ R):=by
      injection hv8 with e1 _ e2
      rw[e1,e2];exact hN
     clear hv8 hN;go_wp2
     go_ret2
     exact⟨A8,c8,R,0,rfl,ay HB.out HW.out,.inl ⟨rfl,⟨qv,HL4.out,λi x hx=>Wy.out i x (bC.1 hx).1 hx⟩,HR.out.1,Nv.out.mono HB.out.size⟩⟩
end Go.Proofs.YtpmdedcnbockhaaGreatDoor

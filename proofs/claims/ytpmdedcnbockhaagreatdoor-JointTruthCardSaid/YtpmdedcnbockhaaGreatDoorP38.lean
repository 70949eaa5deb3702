/-
  JtW
-/
import Derived.Test.YtpmdedcnbockhaaGreatDoorP37
namespace Go.Proofs.YtpmdedcnbockhaaGreatDoor
open Go.RowKit Go.Shelf
theorem lJ{l:List Bool}{i:Nat}(h:i<l.length):(l.set i true).getD i false=true:=by simp[List.getD,h]
theorem je{l:List Bool}{i j:Nat}(h:l.getD i false=true):(l.set j true).getD i false=true:=by
 by_cases e:j=i
 .subst e
  refine lJ ?_;rcases iA j l.length with h1|h1
  .exact h1
  .rw[List.getD,lY h1]at h;cases h
 .rw[List.getD,List.getElem?_set_ne e];exact h
theorem zG{C:au}{x:Int}(h:C.natural x=true):0<=x/\x.toNat<C.acts.length:=by
 unfold au.natural au.JA at h;by_cases h0:0<=x
 .rw[if_pos h0]at h
  refine⟨h0,?_⟩;rcases iA x.toNat C.acts.length with h1|h1
  .exact h1
  .rw[lY h1]at h;cases h
 .rw[if_neg h0]at h;cases h
theorem L8{C:au}{ms:List aC}{j i:Nat}{l:List Bool}(h:l.getD i false=true):(qG C ms j l).getD i false=true:=by
 unfold qG;split
 .rename_i k m _ _
  cases m.runs with
  |false=>exact h
  |true=>
   cases (k.pause== -1)with
   |false=>exact je (je (je h))
   |true=>exact je h
 .exact h
theorem BS{C:au}{ms:List aC}{i n:Nat}(h:(iq C ms n).getD i false=true):∀d,(iq C ms (n+d)).getD i false=true
 |0=>h
 |d+1=>L8 (BS h d)
theorem OZ{C:au}{ms:List aC}{n j:Nat}{m:aC}{k:aQ}(hj:j<n)(hm:ms[j]?=some m)(hk:C.clauses[j]?=some k)(hr:m.runs=true)(hok:oN C j k){i:Nat}(hi:k.act=i\/k.pause=i\/k.resume=i):(iq C ms n).getD i false=true:=by
 have h1:(iq C ms (j+1)).getD i false=true:=by
  rw[iq];unfold qG;have hl:=oQ C ms j;simp only[hm,hk,hr,cond_true];have nat:∀x:Int,C.natural x=true->x.toNat<C.acts.length:=λx hx=>(zG hx).2;have ha:=hok.aeS;have hb:=hok.aeT;cases q:(k.pause== -1)with
  |true=>
   rw[beq_iff_eq]at q;simp only[cond_true];rcases hi with e|e|e
   .rw[e];exact lJ (by rw[hl];omega)
   .omega
   .have h3:=(hok.pause (.inr (by omega))).2.1
    have:=(zG h3).1;omega
  |false=>
   have q':k.pause≠ -1:=by simpa using q
   obtain⟨_,h3,h4⟩:=hok.pause (.inl q');have n3:=nat _ h3;have n4:=nat _ h4;simp only[cond_false];rcases hi with e|e|e
   .rw[e];exact je (je (lJ (by rw[hl];omega)))
   .rw[e]at n3⊢;exact je (lJ (by rw[List.length_set,hl];omega))
   .rw[e]at n4⊢;exact lJ (by rw[List.length_set,List.length_set,hl];omega)
 have:=BS h1 (n - (j+1))
 rwa [show j+1+(n - (j+1))=n by omega]at this
section
variable {C:au} {P l V:List Int} {s:ak} {r r0:List ak}
theorem aaq(hO:bJ C s)(hP:C.jU P=true){i:Nat}(hi:i<C.acts.length)(h:rP C s P i=false):hidJ C P s i=true\/C.next s i=s:=by
 obtain⟨a,ha⟩:∃a,C.acts[i]?=some a:=⟨C.acts[i],aT hi⟩;unfold rP at h;rw[oH]at h;have hany:C.lQ P s i=false:=h.2;unfold au.jU at hP;simp only[bM,decide_eq_true_eq,fq]at hP;obtain⟨p,hp⟩:=List.exists_mem_of_length_pos (l:=P) (by omega);have hpp:=hP.2.2 p hp;have hn1:C.sees s p i=false:=by
  have h2:=h.2;rw[List.any_eq_false]at h2;exact Bool.eq_false_iff.2 (h2 p hp)
 have hsk:zi s a p=false:=by
  unfold au.sees au.wN at hn1;have h1:C.fC s=true:=(iC C s).2 hO;have h2:decide (0<=p)=true:=by simpa using hpp.1
  have h3:decide (p<C.aF)=true:=by simpa using hpp.2
  have h4:decide ((0:Int)<=i)=true:=by simp
  have h5:decide ((i:Int)<C.acts.length)=true:=by simpa using hi
  simpa only[h1,h2,h3,h4,h5,Bool.true_and,su,ha]using hn1
 have hkt:(a.kind==1)=true/\(a.tgt== -1)=false:=by
  unfold zi sF at hsk;cases q1:(a.kind==1)<;>cases q2:(a.tgt== -1)<;>simp[q1,q2]at hsk⊢
 have hst:C.sight P s i=false:=by
  unfold au.sight;rw[ha];simp only[hkt.1,hkt.2,hany];rfl
 cases hn:(C.named s).getD i false with
 |true=>
  left;unfold hidJ;rw[hn,hst];rfl
 |false=>
  right;rw[xK ha];refine WX hO (by simpa using hkt.1) (λj m k hm hk hr=>?_);have hjl:j<s.marks.length:=(aZ.1 hm).1;have hcl:=(au.ok hO.con).clause hk;unfold au.named at hn;have key:∀x:Int,(k.act=x\/k.pause=x\/k.resume=x)->x≠i:=λx hx e=>by
   subst e;rw[OZ hjl hm hk hr hcl hx]at hn;cases hn
  exact⟨key _ (.inl rfl),key _ (.inr (.inl rfl)),key _ (.inr (.inr rfl))⟩
theorem pY.unseen{b:List ak}(h:pY C P b r)(hs:s∈r)(hd:s.day<C.days)(hP:C.jU P=true){i:Nat}(hi:i<C.acts.length)(hn:rP C s P i=false):C.next s i∈r:=by
 rcases aaq (h.ok s hs) hP hi hn with h1|h1
 .exact h.closed s hs hd i hi h1
 .rw[h1];exact hs
theorem Er{x:Int}(hs:s∈r)(hd:s.day<C.days)(h:rP C s P x=true):C.next s x∈C.fO P x r:=by
 unfold au.fO;refine dU.2 ⟨s,List.mem_filter.2 ⟨hs,?_⟩,rfl⟩;unfold xY;have h1:(!decide (C.days<=s.day))=true:=by rw[iE,decide_eq_false_iff_not];omega
 rw[h1,Bool.true_and];unfold rP at h;cases hx:(x== -1)with
 |true=>rfl
 |false=>
  rw[hx,Bool.false_or]at h;rw[Bool.false_or];obtain⟨p,hp,hse⟩:=List.any_eq_true.1 h;have adF:=hse;unfold au.sees at adF;simp only[bM,decide_eq_true_eq]at adF;obtain⟨_,_,_,h0,h1,_⟩:=adF;have e:((x.toNat:Nat):Int)=x:=by omega
  obtain⟨a,ha⟩:∃a,C.acts[x.toNat]?=some a:=⟨C.acts[x.toNat]'(by omega),aT _⟩;unfold au.sight;rw[ha];have hany:C.lQ P s x.toNat=true:=by
   unfold au.lQ;rw[e];exact h
  simp only[hany,Bool.or_true]
theorem gF.clo(h0:pY C P [C.first] r0)(h:gF C P r0 V r):∃b,pY C P b r:=by
 cases h with
 |nil=>exact⟨_,h0⟩
 |snoc _ h=>exact⟨_,h.2.2⟩
theorem L9(hG:Good C l)(hP:C.jU P=true)(h0:pY C P [C.first] r0):∀(k:Nat)(r:List ak),k<=l.length->gF C P r0 (aN C l P k) r->C.sP (l.take k)∈r
 |0,r,_,h=>by
  rw[aN]at h;rw[gF.qK h,bV];exact h0.has _ (dZ.2 rfl)
 |k+1,r,hk,h=>by
  have hx:=aT (l:=l) (i:=k) (by omega);generalize l[k]=x at hx;obtain⟨hO,hd,hs,_⟩:=qH (hG.legal k x hx);rw[xL hx];rw[xZ hx]at h;cases hb:rP C (C.sP (l.take k)) P x with
  |true=>
   rw[hb,cond_true]at h;obtain⟨r1,h1,h2⟩:=gF.uP h;exact h2.2.2.has _ (Er (L9 hG hP h0 k r1 (by omega) h1) hd hb)
  |false=>
   rw[hb,cond_false]at h;obtain⟨i,rfl,hi⟩:∃i:Nat,(i:Int)=x/\i<C.acts.length:=by
    rcases hs with rfl|⟨h0,h1⟩
    .cases hb
    .exact⟨x.toNat,by omega,by omega⟩
   obtain⟨b,aks⟩:=h.clo h0;exact aks.unseen (L9 hG hP h0 k r (by omega) h) hd hP hi hb
theorem vM:∀(n k:Nat)(x:Int),(aN C l P n)[k]?=some x->∃j,j<n/\l[j]?=some x/\rP C (C.sP (l.take j)) P x=true/\aN C l P j=(aN C l P n).take k
 |0,k,x,h=>by simp[aN]at h
 |n+1,k,x,h=>by
  rw[aN]at h⊢;cases hn:l[n]? with
  |none=>
   rw[hn]at h;obtain⟨j,h1,h2,h3,h4⟩:=vM n k x h;exact⟨j,by omega,h2,h3,h4⟩
  |some y=>
   rw[hn]at h;cases hb:rP C (C.sP (l.take n)) P y with
   |false=>
    simp only[hb,cond_false]at h⊢;obtain⟨j,h1,h2,h3,h4⟩:=vM n k x h;exact⟨j,by omega,h2,h3,h4⟩
   |true=>
    simp only[hb,cond_true]at h⊢;by_cases hk:k<(aN C l P n).length
    .rw[lX hk]at h
     obtain⟨j,h1,h2,h3,h4⟩:=vM n k x h;exact⟨j,by omega,h2,h3,by rw[h4,List.take_append_of_le_length (by omega)]⟩
    .have hk2:k=(aN C l P n).length:=by
      have:=(aZ.1 h).1;rw[lS,vN]at this;omega
     subst hk2;rw[oG (bH _),Nat.sub_self]at h;simp at h;subst h;exact⟨n,by omega,hn,hb,by rw[List.take_append_of_le_length (bH _),gV]⟩
theorem Vl{er:Int}(hG:Good C l)(hP:C.jU P=true)(h:Aa C P (aN C l P l.length) r er):er=3/\r=[]\/er=0/\∃r0,pY C P [C.first] r0/\gF C P r0 (aN C l P l.length) r:=by
 rcases h with⟨_,_,h⟩|⟨_,_,⟨rfl,rfl,_⟩|⟨r0,h0,⟨rfl,rfl,_⟩|⟨_,⟨rfl,h⟩|⟨hne,rfl,k,r1,x,hk,h1,ha⟩⟩⟩⟩
 .exact absurd ⟨hG.valid,hP⟩ h
 .exact .inl ⟨rfl,rfl⟩
 .exact .inl ⟨rfl,rfl⟩
 .exact .inr ⟨rfl,r0,h0,h⟩
 .obtain⟨j,hj,hlj,hb,hv⟩:=vM _ _ _ hk
  obtain⟨hO,hd,hs,_⟩:=qH (hG.legal j x hlj);rw[<-hv]at h1;rcases ha with⟨_,h2⟩|⟨_,⟨_,h2⟩|⟨rfl,_⟩⟩
  .exact absurd hs h2
  .have:=Er (L9 hG hP h0 j r1 (by omega) h1) hd hb
   rw[h2]at this;cases this
  .exact .inl ⟨rfl,rfl⟩
theorem Iy{d:Int}{b:List ak}(h0:∀t∈b,t.day=d)(h:pX C P b s):s.day=d:=by
 induction h with
 |base hs=>exact h0 _ hs
 |step _ _ hi _ ih=>
  obtain⟨a,ha⟩:∃a,C.acts[_]?=some a:=⟨_,aT hi⟩;rw[xK ha,Ie];exact ih
theorem RH(h0:pY C P [C.first] r0)(h:gF C P r0 V r):∀s∈r,s.day=jh V:=by
 induction h with
 |nil=>exactλs hs=>Iy (b:=[C.first]) (λt ht=>by rw[dZ.1 ht];rfl) (h0.reach s hs)
 |snoc _ h ih=>
  rename_i V0 r1 r2 x _;refineλs hs=>Iy (λt ht=>?_) (h.2.2.reach s hs);unfold au.fO at ht;obtain⟨s0,hs0,rfl⟩:=dU.1 ht;have h1:=ih s0 (List.mem_filter.1 hs0).1;rw[mD];rcases h.1 with rfl|⟨e0,e1⟩
  .show s0.day+1=_
   rw[h1];simp[jh]
  .obtain⟨i,rfl⟩:∃i:Nat,x=i:=⟨x.toNat,by omega⟩
   obtain⟨a,ha⟩:∃a,C.acts[i]?=some a:=⟨C.acts[i]'(by omega),aT _⟩;have ht:jh [(i:Int)]=0:=og (λa h=>by rw[dZ.1 h];omega);rw[xK ha,Ie,h1,ht];rfl
theorem Iz:∀k,k<=l.length->jh (aN C l P k)=jh (l.take k)
 |0,_=>by rw[aN,bV]
 |k+1,hk=>by
  have hx:=aT (l:=l) (i:=k) (by omega);have ih:=Iz k (by omega);rw[xZ hx,take_snoc' hx,mD];generalize l[k]=x at hx⊢;cases hb:rP C (C.sP (l.take k)) P x with
  |true=>rw[cond_true,mD,ih]
  |false=>
   have ht:jh [x]=0:=og (λa h=>by
    rw[dZ.1 h];rintro rfl;cases hb)
   rw[cond_false,ih,ht];rfl
theorem pY.Yr{b:List ak}(h:pY C P b r){j:Nat}{x y:ak}(ha:r[j]?=some x)(hb:r[j+1]?=some y):x.text<y.text:=by
 obtain⟨h1,e1⟩:=aZ.1 ha;obtain⟨h2,e2⟩:=aZ.1 hb;have:=Du.1 (List.pairwise_map.1 h.sorted) j (j+1) h1 h2 (by omega)
 rwa [e1,e2]at this
structure L_(C:au)(l:List Int)(r:List ak):Prop where
 ok:∀s∈r,bJ C s
 day:∀s∈r,s.day=jh l
 less:∀(j:Nat)(x y:ak),r[j]?=some x->r[j+1]?=some y->x.text<y.text
 has:C.sP l∈r
theorem L_.of(hG:Good C l)(hP:C.jU P=true)(h0:pY C P [C.first] r0)(h:gF C P r0 (aN C l P l.length) r):L_ C l r:=by
 obtain⟨b,hb⟩:=h.clo h0;refine⟨hb.ok,λs hs=>?_,λj x y hx hy=>hb.Yr hx hy,?_⟩
 .rw[RH h0 h s hs,Iz _ (bH _),gV]
 .have:=L9 hG hP h0 l.length r (bH _) h
  rwa [gV]at this
end
end Go.Proofs.YtpmdedcnbockhaaGreatDoor

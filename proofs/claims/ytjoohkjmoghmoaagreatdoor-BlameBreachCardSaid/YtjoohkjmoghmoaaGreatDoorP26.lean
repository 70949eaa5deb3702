/- part -/
import Derived.Test.YtjoohkjmoghmoaaGreatDoorP25
set_option linter.all false
namespace Go.Proofs.YtjoohkjmoghmoaaGreatDoor
section
noncomputable section
def hdR(args:List AV)(h:AH)(n:Nat):Option fq:=match args with|[]=>some (.ok (.b true) h n)|_=>none
theorem aa0:zJ Tryz.prog sl0 O0:=λf hf g args h n v h' n' e=>by
 have e':bc (Nat.beq g P6) (hdR args h n) (OD f g args h n)=some (.ok v h' n'):=e;cases hg:Nat.beq g P6 with
 |false=>rw[hg,fU]at e';exact TB f hf g args h n v h' n' e'
 |true=>
  rw[hg,bF]at e';obtain rfl:=beq_eq hg;unfold hdR at e';split at e'
  case h_2=>cases e'
  cases e'
  refine⟨⟨_,_,Tryz.func8,rfl⟩,λθ w vs H ha=>?_⟩;have hz:RH Tryz.prog sl0 (λ_=>none) .z 0 w:=⟨λx o e=>(by rw[Tr.iE]at e;cases e),λx y r c d hx=>(by rw[Tr.iE]at hx;cases hx),λ_ _=>rfl,λg e=>let⟨ty,q,e1,_⟩:=H.gl g e;⟨ty,q,e1,λ⟨x,c,hx,_⟩=>(by rw[Tr.iE]at hx;cases hx)⟩⟩;obtain rfl:vs=[]:=ha;refine((apart RJ aaZ O1 (by rfl) (λx o e=>by rw[Tr.iE]at e;cases e)).2 _ w [] hz rfl).mono ?_;rintro en w' ⟨bR,u,rfl,q1,q2,F⟩;have hblk:∀k,k<w.heap.size->w'.heap[k]?=w.heap[k]?:=λk hk=>F.block k hk λ⟨x,c,hx,_⟩=>by rw[Tr.iE]at hx;cases hx
  refine⟨θ,u,rfl,q1,⟨λx o e=>?_,H.inj,H.new,λg e=>?_⟩,F.os,F.tape,F.output,F.size,λk hk _=>hblk k hk,gZ.refl _,λk q=>.inl q,λk r e=>⟨r,(hblk k (bH e)).trans e⟩,λx y e1 e2=>absurd e1 e2,λ_ _ e=>e⟩
  .obtain⟨r,c,obj,k1,k2,k3⟩:=H.at_ x o e
   exact⟨r,c,obj,k1,(hblk r (bH k2)).trans k2,k3⟩
  .obtain⟨ty,q,e1,e2⟩:=H.gl g e
   exact⟨ty,q,(hblk g (bH e1)).trans e1,e2⟩
end
end
open Go.RowKit
noncomputable section
theorem RL(K:Nat){h:AH}{n:Nat}{Q:AV->AH->Nat->Prop}(hQ:∀h' n',Up h n h' n'->Q (.b true) h' n'):CW (EF (K+1)) 8 [] h n Q:=⟨_,_,_,rfl,hQ _ _ (Up.refl _ _)⟩
theorem Ee{w:World}{cv:CS}{C:aA}{party:Int}{ov:AV}{l:List Int}{u0 u1:Value}(hT:Lib.TabIs Tryz.prog w "internal/strconv.uint64pow10" .u64 Lib.pow10Tab)(h0:aV (Iw w) (.agg (cv.av C)) u0)(h1:aV (Iw w) ov u1)(hC:aZ (hW w) w.heap.size cv C)(hO:SL (hW w) w.heap.size 1 ov (λx:Int=>[AV.i .i64 x]) l):
 Calls Tryz.prog 5 #[u0,u1,.int .i64 party] w λe w'=>e= .returned (.bool true)/\Below w.heap.size w w':=by
 have h:=Kv (sl:=sl0) (O:=O0) RJ aa0 hT (vs:=[u0,u1,.int .i64 party]) (Q:=λv _ _=>v= .b true) (Kt 0 (party:=party) (λhQ=>RL 409 hQ) hC hO (λ_ _ _=>rfl)) ⟨_,_,h0,⟨_,_,h1,⟨_,_,rfl,rfl,rfl⟩,rfl⟩,rfl⟩;refine h.mono ?_;rintro e w' ⟨v,h',n',bR,u,rfl,rfl,hv,hb⟩;exact⟨by rw[show u= .bool true from hv],hb⟩
end
end Go.Proofs.YtjoohkjmoghmoaaGreatDoor

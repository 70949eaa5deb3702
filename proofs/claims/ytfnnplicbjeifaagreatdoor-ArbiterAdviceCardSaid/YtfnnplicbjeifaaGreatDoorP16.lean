/- part -/
import Derived.Test.YtfnnplicbjeifaaGreatDoorP15
set_option linter.all false
namespace Go.Proofs.YtfnnplicbjeifaaGreatDoor
section
noncomputable section
def hdR(args:List AV)(h:AH)(n:Nat):Option fH:=match args with|[]=>some (.ok (.b true) h n)|_=>none
theorem aeD:zV Tryz.prog sl0 O0:=λf hf g args h n v h' n' e=>by
 have e':bc (Nat.beq g RJ) (hdR args h n) (OD f g args h n)=some (.ok v h' n'):=e;cases hg:Nat.beq g RJ with
 |false=>rw[hg,gH]at e';exact WH f hf g args h n v h' n' e'
 |true=>
  rw[hg,bD]at e';obtain rfl:=beq_eq hg;unfold hdR at e';split at e'
  case h_2=>cases e'
  cases e'
  refine⟨⟨_,_,Tryz.func10,rfl⟩,λθ w vs H ha=>?_⟩;have hz:RH Tryz.prog sl0 (λ_=>none) .z 0 w:=⟨λx o e=>(by rw[Tr.iL]at e;cases e),λx y r c d hx=>(by rw[Tr.iL]at hx;cases hx),λ_ _=>rfl,λg e=>let⟨ty,q,e1,_⟩:=H.gl g e;⟨ty,q,e1,λ⟨x,c,hx,_⟩=>(by rw[Tr.iL]at hx;cases hx)⟩⟩;obtain rfl:vs=[]:=ha;refine((apart U2 aeC Ry (by rfl) (λx o e=>by rw[Tr.iL]at e;cases e)).2 _ w [] hz rfl).mono ?_;rintro en w' ⟨bW,u,rfl,q1,q2,F⟩;have hblk:∀k,k<w.heap.size->w'.heap[k]?=w.heap[k]?:=λk hk=>F.block k hk λ⟨x,c,hx,_⟩=>by rw[Tr.iL]at hx;cases hx
  refine⟨θ,u,rfl,q1,⟨λx o e=>?_,H.inj,H.new,λg e=>?_⟩,F.os,F.tape,F.output,F.size,λk hk _=>hblk k hk,iH.refl _,λk q=>.inl q,λk r e=>⟨r,(hblk k (bK e)).trans e⟩,λx y e1 e2=>absurd e1 e2,λ_ _ e=>e⟩
  .obtain⟨r,c,obj,k1,k2,k3⟩:=H.at_ x o e
   exact⟨r,c,obj,k1,(hblk r (bK k2)).trans k2,k3⟩
  .obtain⟨ty,q,e1,e2⟩:=H.gl g e
   exact⟨ty,q,(hblk g (bK e1)).trans e1,e2⟩
end
end
open Go.RowKit
noncomputable section
theorem U5(K:Nat){h:AH}{n:Nat}{Q:AV->AH->Nat->Prop}(hQ:∀h' n',Up h n h' n'->Q (.b true) h' n'):CW (EF (K+1)) 10 [] h n Q:=⟨_,_,_,rfl,hQ _ _ (Up.refl _ _)⟩
theorem Bp{w:World}{cv:CS}{C:ay}{party:Int}{ov:AV}{jM:List Int}{tv iy drv:AV}{at_ dp:Int}{l:List Int}{ss:List (Int×AV)}{ds:List (TS×dU)}{u0 u2 u3:Value}(hT:Lib.TabIs Tryz.prog w "internal/strconv.uint64pow10" .u64 Lib.pow10Tab)(h0:aV (GI w) (.agg (cv.av C)) u0)(h2:aV (GI w) ov u2)(h3:aV (GI w) (.agg (Ez tv at_ iy dp drv)) u3)
 (hC:aY (hW w) w.heap.size cv C)(hO:SL (hW w) w.heap.size 1 ov (λx:Int=>[AV.i .i64 x]) jM)(hK:Zy (hW w) w.heap.size tv at_ iy dp drv l ss ds):
 Calls Tryz.prog 9 #[u0,.int .i64 party,u2,u3] w λe w'=>e= .returned (.bool true)/\Below w.heap.size w w':=by
 obtain⟨k1,k2,k3,k4⟩:=hK;have h:=Nb (sl:=sl0) (O:=O0) U2 aeD hT (vs:=[u0,.int .i64 party,u2,u3]) (Q:=λv _ _=>v= .b true) (EA 0 (party:=party) (λhQ=>U5 409 hQ) hC hO k1 k2 k3 k4 (λ_ _ _=>rfl)) ⟨_,_,h0,⟨_,_,rfl,⟨_,_,h2,⟨_,_,h3,rfl,rfl⟩,rfl⟩,rfl⟩,rfl⟩;refine h.mono ?_;rintro e w' ⟨v,h',n',bW,u,rfl,rfl,hv,hb⟩;exact⟨by rw[show u= .bool true from hv],hb⟩
end
end Go.Proofs.YtfnnplicbjeifaaGreatDoor

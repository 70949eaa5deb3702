/- part -/
import Derived.Test.YtpmdedcnbockhaaGreatDoorS13
set_option maxRecDepth 100000
set_option maxHeartbeats 8000000
namespace Go.Proofs
open Go.RowKit Go.Maps Go.Sort Go.Shelf Tryz
theorem Tryz.sortsIt(m:Nat):AnyZ.SortsIn prog Tryz.sortedIt_ren Fence.wide m:=
 ⟨λblk off cap ss W hH hblk hsz=>callsIn_wide.2 (AnyM.slices_Sort_string Tryz.sortIt blk off cap ss W hH hblk hsz),
  λp cap W=>callsIn_wide.2 (AnyM.slices_Sort_string_none Tryz.sortIt p cap W)⟩
theorem Tryz.maps_Keys_it(mb:Option Nat)(W:World):CallsIn Fence.wide 5 prog 131 #[.map mb] W λe w'=>e= .returned (.func (.func 156) #[] #[.pointer (some ⟨W.heap.size,0,none⟩)])/\w'=W.alloc (.cells #[.map mb] 142):=
 AnyZ.keys_in Tryz.keysIt Fence.wide 5 trivial rfl mb W
theorem Tryz.slices_Sorted_keys_it{H:Type}(b nn:Nat)(D0:DataW H)(R:Value->Option (DataW H×List MemPlace))(w:World)(hown:w.ownsMap prog 9 R b nn D0)(hmax:Maps.size D0<=maxLen)(jR:Maps.size D0*16<=140737488355328):
 CallsIn Fence.wide 5 prog 130 #[.func (.func 156) #[] #[.pointer (some ⟨w.heap.size,0,none⟩)]] (w.alloc (.cells #[.map (some b)] 142)) λe w'=>∃(v:Value)(ss:List (List UInt8)),e= .returned v/\ss.Perm (strKeys D0)/\
  w'.ownsRow (w.alloc (.cells #[.map (some b)] 142)).heap.size 9 1 v ss.length ((ss.mergeSort (λx y=>decide (x<=y))).map encStr)/\(v= .slice none 0 0↔ss=[])/\Below (w.alloc (.cells #[.map (some b)] 142)).heap.size (w.alloc (.cells #[.map (some b)] 142)) w':=by
 have hbl:=hown.lt;have hseq:SeqGives Fence.wide 2 prog 156 #[.pointer (some ⟨w.heap.size,0,none⟩)] encStr (λss=>ss.Perm (strKeys D0)) (Maps.size D0) (w.alloc (.cells #[.map (some b)] 142)):=
  AnyZ.keys_gives (ρ:=Tryz.keysIt_ren) {Tryz.keysIt with} Fence.wide _ trivial rfl (by omega) w.heap.size b nn D0 _ (by simp) (by simp) (by
   obtain⟨es,clock,hb,Ft,hs,hD⟩:=hown;exact⟨es,clock,(Below.heap_alloc _ _ b hbl).trans hb,Ft,hs,hD⟩)
 exact AnyZ.sorted_in Tryz.sortedIt Fence.wide 5 trivial trivial trivial trivial rfl (by omega) (Tryz.sortsIt _) (enters_of func153 (by kernel_rfl) rfl) 156 #[.pointer (some ⟨w.heap.size,0,none⟩)] trivial (enters_of func156 (by kernel_rfl) rfl) _ _ hmax jR _ hseq
theorem Tryz.slices_Sorted_keys_nil_it(w:World):
 CallsIn Fence.wide 5 prog 130 #[.func (.func 156) #[] #[.pointer (some ⟨w.heap.size,0,none⟩)]] (w.alloc (.cells #[.map none] 142)) λe w'=>∃(v:Value)(ss:List (List UInt8)),e= .returned v/\ss=[]/\
  w'.ownsRow (w.alloc (.cells #[.map none] 142)).heap.size 9 1 v ss.length ((ss.mergeSort (λx y=>decide (x<=y))).map encStr)/\(v= .slice none 0 0↔ss=[])/\Below (w.alloc (.cells #[.map none] 142)).heap.size (w.alloc (.cells #[.map none] 142)) w':=by
 have hseq:SeqGives Fence.wide 2 prog 156 #[.pointer (some ⟨w.heap.size,0,none⟩)] encStr (λss:List (List UInt8)=>ss=[]) 0 (w.alloc (.cells #[.map none] 142)):=
  AnyZ.keys_gives_nil (ρ:=Tryz.keysIt_ren) {Tryz.keysIt with} Fence.wide _ trivial rfl w.heap.size _ (by simp) (by simp)
 exact AnyZ.sorted_in Tryz.sortedIt Fence.wide 5 trivial trivial trivial trivial rfl (by omega) (Tryz.sortsIt _) (enters_of func153 (by kernel_rfl) rfl) 156 #[.pointer (some ⟨w.heap.size,0,none⟩)] trivial (enters_of func156 (by kernel_rfl) rfl) _ 0 (Nat.zero_le _) (by omega) _ hseq
end Go.Proofs

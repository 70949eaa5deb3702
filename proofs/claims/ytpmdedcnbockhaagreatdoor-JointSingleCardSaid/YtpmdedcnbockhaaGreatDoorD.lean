/-
  Short names of laws of the library.
-/
import Derived.Lib.Hide
import Derived.Deep.Quiet
import Derived.CallsIn
namespace Go.Proofs.YtpmdedcnbockhaaGreatDoor
theorem aS:type_of% @List.getElem?_eq_getElem:=@List.getElem?_eq_getElem
theorem bB:type_of% @List.getElem?_eq_some_iff:=@List.getElem?_eq_some_iff
theorem cK:type_of% @List.mem_of_getElem?:=@List.mem_of_getElem?
theorem bS:type_of% @Bool.and_eq_true:=@Bool.and_eq_true
theorem eB:type_of% @List.mem_singleton:=@List.mem_singleton
theorem gF:type_of% @List.take_succ_cons:=@List.take_succ_cons
theorem gI:type_of% @List.drop_succ_cons:=@List.drop_succ_cons
theorem jU:type_of% @List.mem_append:=@List.mem_append
theorem bJ:type_of% @Nat.le_refl:=@Nat.le_refl
theorem mU:type_of% @List.length_append:=@List.length_append
theorem aU:type_of% @Nat.zero_le:=@Nat.zero_le
theorem bW:type_of% @List.take_zero:=@List.take_zero
theorem b_:type_of% @List.drop_zero:=@List.drop_zero
theorem bU:type_of% @List.append_nil:=@List.append_nil
theorem bI:type_of% @Nat.le_trans:=@Nat.le_trans
theorem dU:type_of% @List.length_map:=@List.length_map
theorem dx:type_of% @List.mem_cons:=@List.mem_cons
theorem gK:type_of% @List.getElem?_map:=@List.getElem?_map
theorem cZ:type_of% @List.mem_map:=@List.mem_map
theorem iG:type_of% @List.take_length:=@List.take_length
theorem kG:type_of% @List.mem_cons_of_mem:=@List.mem_cons_of_mem
theorem rP:type_of% @List.length_singleton:=@List.length_singleton
theorem iQ:type_of% @List.not_mem_nil:=@List.not_mem_nil
theorem fV:type_of% @List.all_eq_true:=@List.all_eq_true
theorem gV:type_of% @List.length_cons:=@List.length_cons
theorem jW:type_of% @List.mem_iff_getElem?:=@List.mem_iff_getElem?
theorem lS:type_of% @Array.getElem?_eq_some_iff:=@Array.getElem?_eq_some_iff
theorem jk:type_of% @Bool.not_eq_true':=@Bool.not_eq_true'
theorem kH:type_of% @List.getElem?_append_left:=@List.getElem?_append_left
theorem mX:type_of% @List.getElem?_eq_none:=@List.getElem?_eq_none
theorem Br:type_of% @List.mem_flatMap:=@List.mem_flatMap
theorem zX:type_of% @List.append_assoc:=@List.append_assoc
theorem lT:type_of% @List.getElem?_take:=@List.getElem?_take
theorem lW:type_of% @List.getElem?_append_right:=@List.getElem?_append_right
theorem j_:type_of% @List.getElem?_set:=@List.getElem?_set
theorem mY:type_of% @List.length_replicate:=@List.length_replicate
theorem lX:type_of% @List.ext_getElem?:=@List.ext_getElem?
theorem pz:type_of% @List.length_take:=@List.length_take
theorem rQ:type_of% @List.flatMap_cons:=@List.flatMap_cons
theorem mZ:type_of% @Option.map_some:=@Option.map_some
theorem kM:type_of% @List.length_nil:=@List.length_nil
theorem wZ:type_of% @List.eq_nil_of_length_eq_zero:=@List.eq_nil_of_length_eq_zero
theorem iH:type_of% @Nat.lt_or_ge:=@Nat.lt_or_ge
theorem pE:type_of% @List.nil_append:=@List.nil_append
theorem oh:type_of% @Bool.or_eq_false_iff:=@Bool.or_eq_false_iff
theorem iY:type_of% @Int.le_refl:=@Int.le_refl
theorem uF:type_of% @List.size_toArray:=@List.size_toArray
theorem D_:type_of% @List.take_add_one:=@List.take_add_one
theorem wz:type_of% @Array.replicate_succ:=@Array.replicate_succ
theorem wB:type_of% @Array.replicate_zero:=@Array.replicate_zero
theorem kN:type_of% @List.map_cons:=@List.map_cons
theorem zY:type_of% @List.take_of_length_le:=@List.take_of_length_le
theorem wC:type_of% @List.append_toArray:=@List.append_toArray
theorem iR:type_of% @Nat.add_assoc:=@Nat.add_assoc
theorem kP:type_of% @Nat.add_zero:=@Nat.add_zero
theorem Bt:type_of% @List.flatMap_append:=@List.flatMap_append
theorem wD:type_of% @List.cons_append:=@List.cons_append
theorem Ea:type_of% @List.pairwise_iff_getElem:=@List.pairwise_iff_getElem
theorem uG:type_of% @List.foldl_append:=@List.foldl_append
theorem wE:type_of% @List.push_toArray:=@List.push_toArray
theorem w_:type_of% @List.getElem?_of_mem:=@List.getElem?_of_mem
theorem F3:type_of% @List.getD_eq_getElem?_getD:=@List.getD_eq_getElem?_getD
theorem uH:type_of% @Nat.lt_of_lt_of_le:=@Nat.lt_of_lt_of_le
theorem qH:type_of% @Bool.or_eq_true:=@Bool.or_eq_true
theorem Kk:type_of% @List.getElem?_zip_eq_some:=@List.getElem?_zip_eq_some
theorem pF:type_of% @Nat.zero_add:=@Nat.zero_add
theorem wF:type_of% @List.pairwise_cons:=@List.pairwise_cons
theorem Bu:type_of% @List.getElem?_cons_zero:=@List.getElem?_cons_zero
theorem Bv:type_of% @List.getElem?_replicate:=@List.getElem?_replicate
theorem Bz:type_of% @List.getElem?_range:=@List.getElem?_range
theorem pG:type_of% @List.map_append:=@List.map_append
theorem sM:type_of% @Int.toNat_natCast:=@Int.toNat_natCast
theorem zZ:type_of% @List.getElem_mem:=@List.getElem_mem
theorem ah:type_of% @Go.Lib.hid:=@Go.Lib.hid
theorem aC:type_of% @Go.RowKit.Below.refl:=@Go.RowKit.Below.refl
theorem aT:type_of% @Go.World.size_alloc:=@Go.World.size_alloc
theorem aK:type_of% @Go.cell_of_row:=@Go.cell_of_row
theorem bK:type_of% @Go.heap_alloc_new:=@Go.heap_alloc_new
theorem aY:type_of% @Go.wpQuiet_nil:=@Go.wpQuiet_nil
theorem fq:type_of% @Go.callsIn_wide:=@Go.callsIn_wide
end Go.Proofs.YtpmdedcnbockhaaGreatDoor

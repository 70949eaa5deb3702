/-
  Short names of laws of the library.
-/
import Derived.Lib.Hide
import Derived.Deep.Quiet
import Derived.CallsIn
namespace Go.Proofs.YtpmdedcnbockhaaGreatDoor
theorem aT:type_of% @List.getElem?_eq_getElem:=@List.getElem?_eq_getElem
theorem aZ:type_of% @List.getElem?_eq_some_iff:=@List.getElem?_eq_some_iff
theorem cK:type_of% @List.mem_of_getElem?:=@List.mem_of_getElem?
theorem bM:type_of% @Bool.and_eq_true:=@Bool.and_eq_true
theorem dZ:type_of% @List.mem_singleton:=@List.mem_singleton
theorem fK:type_of% @List.take_succ_cons:=@List.take_succ_cons
theorem fT:type_of% @List.drop_succ_cons:=@List.drop_succ_cons
theorem jZ:type_of% @List.mem_append:=@List.mem_append
theorem bH:type_of% @Nat.le_refl:=@Nat.le_refl
theorem lS:type_of% @List.length_append:=@List.length_append
theorem aV:type_of% @Nat.zero_le:=@Nat.zero_le
theorem bV:type_of% @List.take_zero:=@List.take_zero
theorem cO:type_of% @List.drop_zero:=@List.drop_zero
theorem b_:type_of% @List.append_nil:=@List.append_nil
theorem bF:type_of% @Nat.le_trans:=@Nat.le_trans
theorem eF:type_of% @List.length_map:=@List.length_map
theorem d_:type_of% @List.mem_cons:=@List.mem_cons
theorem gG:type_of% @List.getElem?_map:=@List.getElem?_map
theorem dU:type_of% @List.mem_map:=@List.mem_map
theorem gV:type_of% @List.take_length:=@List.take_length
theorem kT:type_of% @List.mem_cons_of_mem:=@List.mem_cons_of_mem
theorem vN:type_of% @List.length_singleton:=@List.length_singleton
theorem iW:type_of% @List.not_mem_nil:=@List.not_mem_nil
theorem fq:type_of% @List.all_eq_true:=@List.all_eq_true
theorem iy:type_of% @List.length_cons:=@List.length_cons
theorem jV:type_of% @List.mem_iff_getElem?:=@List.mem_iff_getElem?
theorem kW:type_of% @Array.getElem?_eq_some_iff:=@Array.getElem?_eq_some_iff
theorem iE:type_of% @Bool.not_eq_true':=@Bool.not_eq_true'
theorem lX:type_of% @List.getElem?_append_left:=@List.getElem?_append_left
theorem lY:type_of% @List.getElem?_eq_none:=@List.getElem?_eq_none
theorem Aj:type_of% @List.mem_flatMap:=@List.mem_flatMap
theorem wE:type_of% @List.append_assoc:=@List.append_assoc
theorem lZ:type_of% @List.getElem?_take:=@List.getElem?_take
theorem oG:type_of% @List.getElem?_append_right:=@List.getElem?_append_right
theorem jI:type_of% @List.getElem?_set:=@List.getElem?_set
theorem mH:type_of% @List.length_replicate:=@List.length_replicate
theorem kX:type_of% @List.ext_getElem?:=@List.ext_getElem?
theorem p9:type_of% @List.length_take:=@List.length_take
theorem qR:type_of% @List.flatMap_cons:=@List.flatMap_cons
theorem j3:type_of% @Option.map_some:=@Option.map_some
theorem jJ:type_of% @List.length_nil:=@List.length_nil
theorem Dr:type_of% @List.eq_nil_of_length_eq_zero:=@List.eq_nil_of_length_eq_zero
theorem iA:type_of% @Nat.lt_or_ge:=@Nat.lt_or_ge
theorem mI:type_of% @List.nil_append:=@List.nil_append
theorem oH:type_of% @Bool.or_eq_false_iff:=@Bool.or_eq_false_iff
theorem iL:type_of% @Int.le_refl:=@Int.le_refl
theorem qU:type_of% @List.size_toArray:=@List.size_toArray
theorem Dt:type_of% @List.take_add_one:=@List.take_add_one
theorem rX:type_of% @Array.replicate_succ:=@Array.replicate_succ
theorem rY:type_of% @Array.replicate_zero:=@Array.replicate_zero
theorem l6:type_of% @List.map_cons:=@List.map_cons
theorem Ak:type_of% @List.take_of_length_le:=@List.take_of_length_le
theorem rZ:type_of% @List.append_toArray:=@List.append_toArray
theorem iM:type_of% @Nat.add_assoc:=@Nat.add_assoc
theorem jW:type_of% @Nat.add_zero:=@Nat.add_zero
theorem Fb:type_of% @List.flatMap_append:=@List.flatMap_append
theorem r9:type_of% @List.cons_append:=@List.cons_append
theorem Du:type_of% @List.pairwise_iff_getElem:=@List.pairwise_iff_getElem
theorem t_:type_of% @List.foldl_append:=@List.foldl_append
theorem r_:type_of% @List.push_toArray:=@List.push_toArray
theorem wF:type_of% @List.getElem?_of_mem:=@List.getElem?_of_mem
theorem Fe:type_of% @List.getD_eq_getElem?_getD:=@List.getD_eq_getElem?_getD
theorem jX:type_of% @Nat.lt_of_lt_of_le:=@Nat.lt_of_lt_of_le
theorem qd:type_of% @Bool.or_eq_true:=@Bool.or_eq_true
theorem Jy:type_of% @List.getElem?_zip_eq_some:=@List.getElem?_zip_eq_some
theorem nJ:type_of% @Nat.zero_add:=@Nat.zero_add
theorem yX:type_of% @List.pairwise_cons:=@List.pairwise_cons
theorem Al:type_of% @List.getElem?_cons_zero:=@List.getElem?_cons_zero
theorem Am:type_of% @List.getElem?_replicate:=@List.getElem?_replicate
theorem Ao:type_of% @List.getElem?_range:=@List.getElem?_range
theorem uf:type_of% @List.map_append:=@List.map_append
theorem su:type_of% @Int.toNat_natCast:=@Int.toNat_natCast
theorem wG:type_of% @List.getElem_mem:=@List.getElem_mem
theorem ah:type_of% @Go.Lib.hid:=@Go.Lib.hid
theorem aD:type_of% @Go.RowKit.Below.refl:=@Go.RowKit.Below.refl
theorem aM:type_of% @Go.World.size_alloc:=@Go.World.size_alloc
theorem aG:type_of% @Go.cell_of_row:=@Go.cell_of_row
theorem bC:type_of% @Go.heap_alloc_new:=@Go.heap_alloc_new
theorem aS:type_of% @Go.wpQuiet_nil:=@Go.wpQuiet_nil
theorem bQ:type_of% @Go.callsIn_wide:=@Go.callsIn_wide
end Go.Proofs.YtpmdedcnbockhaaGreatDoor

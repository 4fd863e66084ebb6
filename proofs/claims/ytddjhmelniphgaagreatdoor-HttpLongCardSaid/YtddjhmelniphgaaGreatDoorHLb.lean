/- Rows of booleans told by a number: short in the printed walks of regions that draw. -/
import Derived.Test.YtddjhmelniphgaaGreatDoorWAll
namespace Go.Proofs.YtddjhmelniphgaaGreatDoor.Print
open Go.RowKit Go.Proofs.YtddjhmelniphgaaGreatDoorW.PrintWords Go.Proofs.YtddjhmelniphgaaGreatDoorW.PrintLast
def lb (n m : Nat) : Array Bool := ((List.range n).map fun i => m.testBit i).toArray
theorem zS : type_of% @List.setIfInBounds_toArray := @List.setIfInBounds_toArray
theorem zT : type_of% @List.set_cons_zero := @List.set_cons_zero
theorem zU : type_of% @List.set_cons_succ := @List.set_cons_succ
theorem zV : type_of% @i64_w := @i64_w
theorem zW : type_of% @i32_w := @i32_w
theorem zX : type_of% @List.map_toArray := @List.map_toArray
theorem zY : type_of% @List.map_cons := @List.map_cons
theorem zZ : type_of% @List.map_nil := @List.map_nil
theorem zD : type_of% @List.length_drop := @List.length_drop
theorem zE : type_of% @List.length_take := @List.length_take
theorem zVa : type_of% @Kd.V_alloc := @Kd.V_alloc
theorem zVb : type_of% @Kd.V_drewN := @Kd.V_drewN
theorem zVc : type_of% @Kd.V_drew := @Kd.V_drew
theorem zRa : type_of% @Kd.R_alloc := @Kd.R_alloc
theorem zRb : type_of% @Kd.R_drewN := @Kd.R_drewN
theorem zRc : type_of% @Kd.R_drew := @Kd.R_drew
theorem zNa : type_of% @Kd.N_alloc := @Kd.N_alloc
theorem zNb : type_of% @Kd.N_drewN := @Kd.N_drewN
theorem zNc : type_of% @Kd.N_drew := @Kd.N_drew
end Go.Proofs.YtddjhmelniphgaaGreatDoor.Print

/- trace.Tell at each kind that the statements hand it. -/
import Derived.Test.YtmokcebpgfhddaaDoorDigits
import Derived.Lib.AppendIntMem
namespace Go.Proofs.YtmokcebpgfhddaaDoor
open Go.RowKit

theorem ta_23_9 (v : Value) (W : World) : (Instr.typeAssert (.iface 9 v) 20 23 true).run Tryd.prog W = .ok (.tuple #[.agg #[.int .i64 0, .int .i64 0, .int .i64 0, .int .i64 0], .bool false]) W := by kernel_rfl
theorem ta_9_9 (v : Value) (W : World) : (Instr.typeAssert (.iface 9 v) 20 9 true).run Tryd.prog W = .ok (.tuple #[v, .bool true]) W := by kernel_rfl
theorem ta_3_9 (v : Value) (W : World) : (Instr.typeAssert (.iface 9 v) 20 3 true).run Tryd.prog W = .ok (.tuple #[.int .i64 0, .bool false]) W := by kernel_rfl
theorem ta_23_23 (v : Value) (W : World) : (Instr.typeAssert (.iface 23 v) 20 23 true).run Tryd.prog W = .ok (.tuple #[v, .bool true]) W := by kernel_rfl
theorem ta_9_23 (v : Value) (W : World) : (Instr.typeAssert (.iface 23 v) 20 9 true).run Tryd.prog W = .ok (.tuple #[.string ⟨#[]⟩, .bool false]) W := by kernel_rfl
theorem ta_3_23 (v : Value) (W : World) : (Instr.typeAssert (.iface 23 v) 20 3 true).run Tryd.prog W = .ok (.tuple #[.int .i64 0, .bool false]) W := by kernel_rfl
theorem ta_23_3 (v : Value) (W : World) : (Instr.typeAssert (.iface 3 v) 20 23 true).run Tryd.prog W = .ok (.tuple #[.agg #[.int .i64 0, .int .i64 0, .int .i64 0, .int .i64 0], .bool false]) W := by kernel_rfl
theorem ta_9_3 (v : Value) (W : World) : (Instr.typeAssert (.iface 3 v) 20 9 true).run Tryd.prog W = .ok (.tuple #[.string ⟨#[]⟩, .bool false]) W := by kernel_rfl
theorem ta_3_3 (v : Value) (W : World) : (Instr.typeAssert (.iface 3 v) 20 3 true).run Tryd.prog W = .ok (.tuple #[v, .bool true]) W := by kernel_rfl
theorem ta_23_29 (v : Value) (W : World) : (Instr.typeAssert (.iface 29 v) 20 23 true).run Tryd.prog W = .ok (.tuple #[.agg #[.int .i64 0, .int .i64 0, .int .i64 0, .int .i64 0], .bool false]) W := by kernel_rfl
theorem ta_9_29 (v : Value) (W : World) : (Instr.typeAssert (.iface 29 v) 20 9 true).run Tryd.prog W = .ok (.tuple #[.string ⟨#[]⟩, .bool false]) W := by kernel_rfl
theorem ta_3_29 (v : Value) (W : World) : (Instr.typeAssert (.iface 29 v) 20 3 true).run Tryd.prog W = .ok (.tuple #[.int .i64 0, .bool false]) W := by kernel_rfl
theorem ta_23_2 (v : Value) (W : World) : (Instr.typeAssert (.iface 2 v) 20 23 true).run Tryd.prog W = .ok (.tuple #[.agg #[.int .i64 0, .int .i64 0, .int .i64 0, .int .i64 0], .bool false]) W := by kernel_rfl
theorem ta_9_2 (v : Value) (W : World) : (Instr.typeAssert (.iface 2 v) 20 9 true).run Tryd.prog W = .ok (.tuple #[.string ⟨#[]⟩, .bool false]) W := by kernel_rfl
theorem ta_3_2 (v : Value) (W : World) : (Instr.typeAssert (.iface 2 v) 20 3 true).run Tryd.prog W = .ok (.tuple #[.int .i64 0, .bool false]) W := by kernel_rfl
theorem ta_23_30 (v : Value) (W : World) : (Instr.typeAssert (.iface 30 v) 20 23 true).run Tryd.prog W = .ok (.tuple #[.agg #[.int .i64 0, .int .i64 0, .int .i64 0, .int .i64 0], .bool false]) W := by kernel_rfl
theorem ta_9_30 (v : Value) (W : World) : (Instr.typeAssert (.iface 30 v) 20 9 true).run Tryd.prog W = .ok (.tuple #[.string ⟨#[]⟩, .bool false]) W := by kernel_rfl
theorem ta_3_30 (v : Value) (W : World) : (Instr.typeAssert (.iface 30 v) 20 3 true).run Tryd.prog W = .ok (.tuple #[.int .i64 0, .bool false]) W := by kernel_rfl
theorem ta_23_nil (W : World) : (Instr.typeAssert .nilIface 20 23 true).run Tryd.prog W = .ok (.tuple #[.agg #[.int .i64 0, .int .i64 0, .int .i64 0, .int .i64 0], .bool false]) W := by kernel_rfl
theorem ta_9_nil (W : World) : (Instr.typeAssert .nilIface 20 9 true).run Tryd.prog W = .ok (.tuple #[.string ⟨#[]⟩, .bool false]) W := by kernel_rfl
theorem ta_3_nil (W : World) : (Instr.typeAssert .nilIface 20 3 true).run Tryd.prog W = .ok (.tuple #[.int .i64 0, .bool false]) W := by kernel_rfl

set_option maxHeartbeats 4000000 in
theorem tell_str (s : ByteArray) (w : World) (hs : s.size ≤ 35184372088832) :
    Calls Tryd.prog 12 #[.iface 9 (.string s)] w fun e w' => e = .returned (.string ⟨(points s).toArray⟩) ∧ Below w.heap.size w w' := by
  have h23 := ta_23_9
  have h9 := ta_9_9
  go_enter Tryd.func12, Tryd.ntmps12
  go_wp2_with (go_at_call 47; refine (points_calls s _ hs).mono ?_; rintro e w' ⟨rfl, hb⟩)
  go_ret
  go_light
  exact ⟨rfl, ((Below.refl _ _).alloc (Nat.le_refl _) _).trans (hb.mono (by simp))⟩

set_option maxHeartbeats 4000000 in
theorem tell_dec (d0 d1 d2 d3 : Int) (w : World) :
    Calls Tryd.prog 12 #[.iface 23 (.agg #[.int .i64 d0, .int .i64 d1, .int .i64 d2, .int .i64 d3])] w fun e w' => e = .returned (.string (wordOf d0)) ∧ Below w.heap.size w w' := by
  have h23 := ta_23_23
  go_enter Tryd.func12, Tryd.ntmps12
  go_wp2_with (go_at_call 46; refine (word_calls _ _).mono ?_; rintro e w' ⟨rfl, hb⟩)
  go_ret
  go_light
  exact ⟨rfl, ((Below.refl _ _).alloc (Nat.le_refl _) _).trans (hb.mono (by simp))⟩

def TabOk (w : World) : Prop := Lib.TabIs Tryd.prog w "internal/strconv.uint64pow10" .u64 Lib.pow10Tab
theorem TabOk.below {w w' : World} (h : TabOk w) (hb : Below w.heap.size w w') : TabOk w' := Lib.tabBelow_of_tabIs h w' hb
theorem itoa_calls (n : Int) (w : World) (h0 : -9223372036854775808 ≤ n) (h1 : n ≤ 9223372036854775807) (ht : TabOk w) :
    Calls Tryd.prog 48 #[.int .i64 n] w fun e w' => e = .returned (.string ⟨(Lib.itoa n).toArray⟩) ∧ Below w.heap.size w w' :=
  (Tryd.strconv_Itoa n h0 h1 w ht).mono fun _ _ ⟨he, k, os, hw⟩ => ⟨he, by subst hw; exact Lib.below_grow _ w (Nat.le_refl _) k os⟩

set_option maxHeartbeats 4000000 in
theorem tell_int (n : Int) (w : World) (h0 : -9223372036854775808 ≤ n) (h1 : n ≤ 9223372036854775807) (ht : TabOk w) :
    Calls Tryd.prog 12 #[.iface 3 (.int .i64 n)] w fun e w' => e = .returned (.string ⟨(Lib.itoa n).toArray⟩) ∧ Below w.heap.size w w' := by
  have HT := Lib.hid ht; clear ht
  have h23 := ta_23_3
  have h9 := ta_9_3
  have h3 := ta_3_3
  go_enter Tryd.func12, Tryd.ntmps12
  go_wp2_with (go_at_call 48; refine (itoa_calls n _ h0 h1 (HT.out.below ((Below.refl _ _).alloc (Nat.le_refl _) _))).mono ?_; rintro e w' ⟨rfl, hb⟩)
  go_ret
  go_light
  exact ⟨rfl, ((Below.refl _ _).alloc (Nat.le_refl _) _).trans (hb.mono (by simp))⟩

set_option maxHeartbeats 4000000 in
theorem tell_nil  (w : World) :
    Calls Tryd.prog 12 #[.nilIface] w fun e w' => e = .returned (.string ⟨#[63]⟩) ∧ Below w.heap.size w w' := by
  have h23 := ta_23_nil
  have h9 := ta_9_nil
  have h3 := ta_3_nil
  go_enter Tryd.func12, Tryd.ntmps12
  go_wp2
  go_ret
  go_light
  exact ⟨rfl, ((Below.refl _ _).alloc (Nat.le_refl _) _)⟩

set_option maxHeartbeats 4000000 in
theorem tell_ptr (v : Value) (w : World) :
    Calls Tryd.prog 12 #[.iface 29 v] w fun e w' => e = .returned (.string ⟨#[63]⟩) ∧ Below w.heap.size w w' := by
  have h23 := ta_23_29
  have h9 := ta_9_29
  have h3 := ta_3_29
  go_enter Tryd.func12, Tryd.ntmps12
  go_wp2
  go_ret
  go_light
  exact ⟨rfl, ((Below.refl _ _).alloc (Nat.le_refl _) _)⟩

set_option maxHeartbeats 4000000 in
theorem tell_i64 (v : Value) (w : World) :
    Calls Tryd.prog 12 #[.iface 2 v] w fun e w' => e = .returned (.string ⟨#[63]⟩) ∧ Below w.heap.size w w' := by
  have h23 := ta_23_2
  have h9 := ta_9_2
  have h3 := ta_3_2
  go_enter Tryd.func12, Tryd.ntmps12
  go_wp2
  go_ret
  go_light
  exact ⟨rfl, ((Below.refl _ _).alloc (Nat.le_refl _) _)⟩

set_option maxHeartbeats 4000000 in
theorem tell_sl (v : Value) (w : World) :
    Calls Tryd.prog 12 #[.iface 30 v] w fun e w' => e = .returned (.string ⟨#[63]⟩) ∧ Below w.heap.size w w' := by
  have h23 := ta_23_30
  have h9 := ta_9_30
  have h3 := ta_3_30
  go_enter Tryd.func12, Tryd.ntmps12
  go_wp2
  go_ret
  go_light
  exact ⟨rfl, ((Below.refl _ _).alloc (Nat.le_refl _) _)⟩

end Go.Proofs.YtmokcebpgfhddaaDoor

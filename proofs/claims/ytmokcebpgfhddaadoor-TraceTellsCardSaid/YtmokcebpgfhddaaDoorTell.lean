/- trace.Tell: a decision's word, a text's points, a number's digits, else "?". -/
import Derived.Test.YtmokcebpgfhddaaDoorText
namespace Go.Proofs.YtmokcebpgfhddaaDoor
open Go.RowKit

def wordOf (k : Int) : ByteArray :=
  if k = 5 then ⟨#[103, 114, 97, 110, 116]⟩ else if k = 6 then ⟨#[100, 101, 110, 121]⟩ else if k = 7 then ⟨#[113, 117, 101, 117, 101]⟩
  else if k = 8 then ⟨#[114, 101, 118, 111, 107, 101]⟩ else if k = 10 then ⟨#[105, 100, 108, 101]⟩ else if k = 15 then ⟨#[119, 101, 108, 99, 111, 109, 101]⟩ else ⟨#[110, 111, 110, 101]⟩

theorem wordOf_none (k : Int) (h : k < 0 ∨ 16 ≤ k) : wordOf k = ⟨#[110, 111, 110, 101]⟩ := by
  unfold wordOf
  repeat (rw [if_neg (by omega)])

set_option maxHeartbeats 4000000 in
theorem word_lo (k : Int) (w : World) (h0b : decide (k < 0) = true) : Calls Tryd.prog 46 #[.int .i64 k] w fun e w' => e = .returned (.string ⟨#[110, 111, 110, 101]⟩) ∧ Below w.heap.size w w' := by
  go_enter Tryd.func46, Tryd.ntmps46
  go_wp2
  go_ret
  go_light
  exact ⟨rfl, (Below.refl _ _).alloc (Nat.le_refl _) _⟩
set_option maxHeartbeats 4000000 in
theorem word_hi (k : Int) (w : World) (h0b : decide (k < 0) = false) (h1b : decide (16 ≤ k) = true) : Calls Tryd.prog 46 #[.int .i64 k] w fun e w' => e = .returned (.string ⟨#[110, 111, 110, 101]⟩) ∧ Below w.heap.size w w' := by
  go_enter Tryd.func46, Tryd.ntmps46
  go_wp2
  go_ret
  go_light
  exact ⟨rfl, (Below.refl _ _).alloc (Nat.le_refl _) _⟩
set_option maxHeartbeats 8000000 in
theorem word_in (k : Nat) (w : World) (hk : k < 16) : Calls Tryd.prog 46 #[.int .i64 k] w fun e w' => e = .returned (.string (wordOf k)) ∧ Below w.heap.size w w' := by
  rcases k with _ | _ | _ | _ | _ | _ | _ | _ | _ | _ | _ | _ | _ | _ | _ | _ | k
  rotate_left 16
  · omega
  all_goals
    go_enter Tryd.func46, Tryd.ntmps46
    go_wp2
    go_ret
    go_light
    exact ⟨rfl, (Below.refl _ _).alloc (Nat.le_refl _) _⟩
theorem word_calls (k : Int) (w : World) : Calls Tryd.prog 46 #[.int .i64 k] w fun e w' => e = .returned (.string (wordOf k)) ∧ Below w.heap.size w w' := by
  by_cases h0 : k < 0
  · rw [wordOf_none k (.inl h0)]
    exact word_lo k w (decide_eq_true h0)
  · by_cases h1 : 16 ≤ k
    · rw [wordOf_none k (.inr h1)]
      exact word_hi k w (decide_eq_false h0) (decide_eq_true h1)
    · obtain ⟨n, rfl⟩ := Int.eq_ofNat_of_zero_le (by omega : 0 ≤ k)
      exact word_in n w (by omega)

end Go.Proofs.YtmokcebpgfhddaaDoor

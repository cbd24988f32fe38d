/- squelchref23.Word, Text, Digits: the document's words. -/
import Derived.Test.YtmokcebpgfhddaaDoorTell
namespace Go.Proofs.YtmokcebpgfhddaaDoor
open Go.RowKit

set_option maxHeartbeats 4000000 in
theorem refWord_calls (d : Dec) (w : World) : Calls Tryd.prog 13 #[.agg d.cells] w fun e w' => e = .returned (.string (wordOf d.kind)) ∧ Below w.heap.size w w' := by
  obtain ⟨d0, d1, d2, d3⟩ := d
  simp only [Dec.cells]
  by_cases k5 : d0 = 5
  · subst k5
    skip
    go_enter Tryd.func13, Tryd.ntmps13
    go_wp2
    go_ret
    go_light
    exact ⟨by simp [wordOf], (Below.refl _ _).alloc (Nat.le_refl _) _⟩
  have n5 : (d0 == 5) = false := beq_eq_false_iff_ne.2 k5
  by_cases k6 : d0 = 6
  · subst k6
    skip
    go_enter Tryd.func13, Tryd.ntmps13
    go_wp2
    go_ret
    go_light
    exact ⟨by simp [wordOf], (Below.refl _ _).alloc (Nat.le_refl _) _⟩
  have n6 : (d0 == 6) = false := beq_eq_false_iff_ne.2 k6
  by_cases k7 : d0 = 7
  · subst k7
    skip
    go_enter Tryd.func13, Tryd.ntmps13
    go_wp2
    go_ret
    go_light
    exact ⟨by simp [wordOf], (Below.refl _ _).alloc (Nat.le_refl _) _⟩
  have n7 : (d0 == 7) = false := beq_eq_false_iff_ne.2 k7
  by_cases k8 : d0 = 8
  · subst k8
    skip
    go_enter Tryd.func13, Tryd.ntmps13
    go_wp2
    go_ret
    go_light
    exact ⟨by simp [wordOf], (Below.refl _ _).alloc (Nat.le_refl _) _⟩
  have n8 : (d0 == 8) = false := beq_eq_false_iff_ne.2 k8
  by_cases k10 : d0 = 10
  · subst k10
    skip
    go_enter Tryd.func13, Tryd.ntmps13
    go_wp2
    go_ret
    go_light
    exact ⟨by simp [wordOf], (Below.refl _ _).alloc (Nat.le_refl _) _⟩
  have n10 : (d0 == 10) = false := beq_eq_false_iff_ne.2 k10
  by_cases k15 : d0 = 15
  · subst k15
    skip
    go_enter Tryd.func13, Tryd.ntmps13
    go_wp2
    go_ret
    go_light
    exact ⟨by simp [wordOf], (Below.refl _ _).alloc (Nat.le_refl _) _⟩
  have n15 : (d0 == 15) = false := beq_eq_false_iff_ne.2 k15
  clear k5 k6 k7 k8 k10 k15
  go_enter Tryd.func13, Tryd.ntmps13
  go_wp2
  go_ret
  go_light
  exact ⟨by simp only [beq_eq_false_iff_ne] at *; simp [wordOf, *], (Below.refl _ _).alloc (Nat.le_refl _) _⟩
end Go.Proofs.YtmokcebpgfhddaaDoor

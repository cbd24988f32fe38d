import Derived.Test.YtmokcebpgfhddaaDoorBase
namespace Go.Proofs.YtmokcebpgfhddaaDoor
open Go.RowKit

set_option maxHeartbeats 4000000 in
theorem grant_calls (w : World) (g : Nat) (j : Jd) (d : Dec) (hj : IsJ w g j) :
    Calls Tryd.prog 94 #[.pointer (some ⟨g, 0, none⟩), .agg d.cells] w fun e w' => e = .returned (.bool (j.grant d).1) ∧ IsJ w' g (j.grant d).2 ∧ Upd (fun k => k = g) w w' := by
  obtain ⟨e, h, r⟩ := j
  obtain ⟨d0, d1, d2, d3⟩ := d
  have hg := hj.lt
  have c0 : w.cell? ⟨g, 0, none⟩ = some (.int .i64 e) := hj.cell 0
  have c1 : w.cell? ⟨g, 1, none⟩ = some (.int .i64 h) := hj.cell 1
  have c2 : w.cell? ⟨g, 2, none⟩ = some (.bool r) := hj.cell 2
  have f0 : ∀ i, w.frozen? ⟨g, i, none⟩ = false := hj.frozen
  have HJ := Lib.hid hj; clear hj
  simp only [Dec.cells]
  by_cases h1 : d1 ≤ 0
  · have h1b : decide (d1 ≤ 0) = true := decide_eq_true h1
    have hr := Lib.hid (show Jd.grant ⟨e, h, r⟩ ⟨d0, d1, d2, d3⟩ = (false, ⟨e, h, r⟩) by simp [Jd.grant, h1])
    rw [hr.out]
    go_enter Tryd.func94, Tryd.ntmps94
    go_wp2
    go_ret
    go_light
    exact ⟨rfl, HJ.out.alloc _, (Upd.refl _ _).alloc _⟩
  · have h1b : decide (d1 ≤ 0) = false := decide_eq_false h1
    by_cases h2 : d2 = wrap64 (e + 1)
    · have h2b : (d2 == wrap64 (e + 1)) = true := beq_iff_eq.2 h2
      have hr := Lib.hid (show Jd.grant ⟨e, h, r⟩ ⟨d0, d1, d2, d3⟩ = (true, ⟨d2, d1, false⟩) by simp only [Jd.grant]; rw [if_neg h1, if_pos h2])
      rw [hr.out]; clear h2
      go_enter Tryd.func94, Tryd.ntmps94
      go_wp2
      go_quiet (fail)
      go_wp2
      go_ret
      go_light
      exact ⟨rfl, ((((HJ.out.alloc _).drewN _).set 0 _).set 1 _).set 2 _, (((((Upd.refl (fun k => k = g) _).alloc _).drewN _).setCell ⟨g, 0, none⟩ _ (.inl rfl)).setCell ⟨g, 1, none⟩ _ (.inl rfl)).setCell ⟨g, 2, none⟩ _ (.inl rfl)⟩
    · have h2b : (d2 == wrap64 (e + 1)) = false := beq_eq_false_iff_ne.2 h2
      have hr := Lib.hid (show Jd.grant ⟨e, h, r⟩ ⟨d0, d1, d2, d3⟩ = (d2 == e && (d1 == h && !r), ⟨e, h, r⟩) by simp only [Jd.grant]; rw [if_neg h1, if_neg h2])
      rw [hr.out]; clear h2 hr
      rcases Bool.eq_false_or_eq_true (d2 == e) with h3 | h3 <;> rcases Bool.eq_false_or_eq_true (d1 == h) with h4 | h4
      all_goals
        go_enter Tryd.func94, Tryd.ntmps94
        go_wp2
        go_quiet (fail)
        go_wp2
        go_quiet (fail)
        go_wp2
        go_ret
        go_light
        exact ⟨by simp [h3, h4], ((HJ.out.alloc _).drewN _).drewN _, (((Upd.refl _ _).alloc _).drewN _).drewN _⟩

set_option maxHeartbeats 4000000 in
theorem fine_calls (w : World) (g : Nat) (j : Jd) (d : Dec) (hj : IsJ w g j) :
    Calls Tryd.prog 49 #[.pointer (some ⟨g, 0, none⟩), .agg d.cells] w fun e w' => e = .returned (.bool (j.fine d).1) ∧ IsJ w' g (j.fine d).2 ∧ Upd (fun k => k = g) w w' := by
  obtain ⟨e, h, r⟩ := j
  obtain ⟨d0, d1, d2, d3⟩ := d
  have hg := hj.lt
  have c0 : w.cell? ⟨g, 0, none⟩ = some (.int .i64 e) := hj.cell 0
  have c1 : w.cell? ⟨g, 1, none⟩ = some (.int .i64 h) := hj.cell 1
  have c2 : w.cell? ⟨g, 2, none⟩ = some (.bool r) := hj.cell 2
  have f0 : ∀ i, w.frozen? ⟨g, i, none⟩ = false := hj.frozen
  have HJ := Lib.hid hj; clear hj
  simp only [Dec.cells]
  by_cases k5 : d0 = 5
  · subst k5
    rcases Bool.eq_false_or_eq_true (d3 == 0) with p0 | p0
    · skip
      obtain rfl : d3 = 0 := by simpa using p0
      clear p0
      go_enter Tryd.func49, Tryd.ntmps49
      go_wp2_with (go_at_call 94; refine (grant_calls _ g ⟨e, h, r⟩ ⟨5, d1, d2, 0⟩ (HJ.out.alloc _)).mono ?_; rintro e w' ⟨rfl, h1, h2⟩)
      repeat (go_quiet (fail); go_wp2_with (go_at_call 94; refine (grant_calls _ g ⟨e, h, r⟩ ⟨5, d1, d2, 0⟩ (HJ.out.alloc _)).mono ?_; rintro e w' ⟨rfl, h1, h2⟩))
      go_ret
      go_light
      rw [show Jd.fine ⟨e, h, r⟩ ⟨5, d1, d2, 0⟩ = Jd.grant ⟨e, h, r⟩ ⟨5, d1, d2, 0⟩ by simp [Jd.fine]]
      exact ⟨rfl, h1, ((Upd.refl _ _).alloc _).trans (h2.mono fun k _ hk => .inl hk)⟩
    · skip
      go_enter Tryd.func49, Tryd.ntmps49
      go_wp2
      repeat (go_quiet (fail); go_wp2)
      go_ret
      go_light
      rw [show Jd.fine _ _ = (false, ⟨e, h, r⟩) by simp [Jd.fine, *]]
      exact ⟨by simp [*], by repeat (with_reducible first | exact HJ.out | apply Blk.alloc | apply Blk.drewN), by repeat (with_reducible first | exact Upd.refl _ _ | apply Upd.alloc | apply Upd.drewN)⟩
  have n5 : (d0 == 5) = false := beq_eq_false_iff_ne.2 k5
  clear k5
  by_cases k8 : d0 = 8
  · subst k8
    rcases Bool.eq_false_or_eq_true (d1 == h) with a1 | a1
    · skip
      rcases Bool.eq_false_or_eq_true (d2 == e) with a2 | a2
      · skip
        rcases Bool.eq_false_or_eq_true (d3 == 0) with a3 | a3
        · skip
          cases r <;> skip
          all_goals
            go_enter Tryd.func49, Tryd.ntmps49
            go_wp2
            repeat (go_quiet (fail); go_wp2)
            go_ret
            go_light
            rw [show Jd.fine ⟨e, h, _⟩ ⟨8, d1, d2, d3⟩ = (decide (0 < h), ⟨e, h, _⟩) by simp only [Jd.fine]; simp [*]; rfl]
            exact ⟨rfl, ((HJ.out.alloc _).drewN _).set 2 _, (((Upd.refl (fun k => k = g) _).alloc _).drewN _).setCell ⟨g, 2, none⟩ _ (.inl rfl)⟩
        · skip
          go_enter Tryd.func49, Tryd.ntmps49
          go_wp2
          repeat (go_quiet (fail); go_wp2)
          go_ret
          go_light
          rw [show Jd.fine _ _ = (false, ⟨e, h, r⟩) by simp [Jd.fine, *]]
          exact ⟨by simp [*], by repeat (with_reducible first | exact HJ.out | apply Blk.alloc | apply Blk.drewN), by repeat (with_reducible first | exact Upd.refl _ _ | apply Upd.alloc | apply Upd.drewN)⟩
      · skip
        go_enter Tryd.func49, Tryd.ntmps49
        go_wp2
        repeat (go_quiet (fail); go_wp2)
        go_ret
        go_light
        rw [show Jd.fine _ _ = (false, ⟨e, h, r⟩) by simp [Jd.fine, *]]
        exact ⟨by simp [*], by repeat (with_reducible first | exact HJ.out | apply Blk.alloc | apply Blk.drewN), by repeat (with_reducible first | exact Upd.refl _ _ | apply Upd.alloc | apply Upd.drewN)⟩
    · skip
      go_enter Tryd.func49, Tryd.ntmps49
      go_wp2
      repeat (go_quiet (fail); go_wp2)
      go_ret
      go_light
      rw [show Jd.fine _ _ = (false, ⟨e, h, r⟩) by simp [Jd.fine, *]]
      exact ⟨by simp [*], by repeat (with_reducible first | exact HJ.out | apply Blk.alloc | apply Blk.drewN), by repeat (with_reducible first | exact Upd.refl _ _ | apply Upd.alloc | apply Upd.drewN)⟩
  have n8 : (d0 == 8) = false := beq_eq_false_iff_ne.2 k8
  clear k8
  by_cases k10 : d0 = 10
  · subst k10
    rcases Bool.eq_false_or_eq_true (d1 == 0) with a1 | a1
    · skip
      rcases Bool.eq_false_or_eq_true (d2 == e) with a2 | a2
      · skip
        rcases Bool.eq_false_or_eq_true (d3 == 0) with a3 | a3
        · skip
          go_enter Tryd.func49, Tryd.ntmps49
          go_wp2
          repeat (go_quiet (fail); go_wp2)
          go_ret
          go_light
          rw [show Jd.fine _ _ = (decide (0 < h), ⟨e, 0, false⟩) by simp [Jd.fine, *]]
          exact ⟨rfl, ((((HJ.out.alloc _).drewN _).set 0 _).set 1 _).set 2 _, (((((Upd.refl (fun k => k = g) _).alloc _).drewN _).setCell ⟨g, 0, none⟩ _ (.inl rfl)).setCell ⟨g, 1, none⟩ _ (.inl rfl)).setCell ⟨g, 2, none⟩ _ (.inl rfl)⟩
        · skip
          go_enter Tryd.func49, Tryd.ntmps49
          go_wp2
          repeat (go_quiet (fail); go_wp2)
          go_ret
          go_light
          rw [show Jd.fine _ _ = (false, ⟨e, h, r⟩) by simp [Jd.fine, *]]
          exact ⟨by simp [*], by repeat (with_reducible first | exact HJ.out | apply Blk.alloc | apply Blk.drewN), by repeat (with_reducible first | exact Upd.refl _ _ | apply Upd.alloc | apply Upd.drewN)⟩
      · skip
        go_enter Tryd.func49, Tryd.ntmps49
        go_wp2
        repeat (go_quiet (fail); go_wp2)
        go_ret
        go_light
        rw [show Jd.fine _ _ = (false, ⟨e, h, r⟩) by simp [Jd.fine, *]]
        exact ⟨by simp [*], by repeat (with_reducible first | exact HJ.out | apply Blk.alloc | apply Blk.drewN), by repeat (with_reducible first | exact Upd.refl _ _ | apply Upd.alloc | apply Upd.drewN)⟩
    · skip
      go_enter Tryd.func49, Tryd.ntmps49
      go_wp2
      repeat (go_quiet (fail); go_wp2)
      go_ret
      go_light
      rw [show Jd.fine _ _ = (false, ⟨e, h, r⟩) by simp [Jd.fine, *]]
      exact ⟨by simp [*], by repeat (with_reducible first | exact HJ.out | apply Blk.alloc | apply Blk.drewN), by repeat (with_reducible first | exact Upd.refl _ _ | apply Upd.alloc | apply Upd.drewN)⟩
  have n10 : (d0 == 10) = false := beq_eq_false_iff_ne.2 k10
  clear k10
  by_cases k7 : d0 = 7
  · subst k7
    rcases Bool.eq_false_or_eq_true (d2 == 0) with a2 | a2
    · skip
      rcases Bool.eq_false_or_eq_true (decide (0 < h)) with q1 | q1
      · skip
        rcases Bool.eq_false_or_eq_true (decide (0 < d1)) with q2 | q2
        · skip
          rcases Bool.eq_false_or_eq_true (d1 != h) with q3 | q3
          · skip
            rcases Bool.eq_false_or_eq_true (decide (1 ≤ d3)) with q4 | q4
            · skip
              go_enter Tryd.func49, Tryd.ntmps49
              go_wp2
              repeat (go_quiet (fail); go_wp2)
              go_ret
              go_light
              rw [show Jd.fine _ _ = (decide (0 < h) && (decide (0 < d1) && (d1 != h && (decide (1 ≤ d3) && decide (d3 ≤ 4)))), ⟨e, h, r⟩) by simp [Jd.fine, *]]
              exact ⟨by simp [*], by repeat (with_reducible first | exact HJ.out | apply Blk.alloc | apply Blk.drewN), by repeat (with_reducible first | exact Upd.refl _ _ | apply Upd.alloc | apply Upd.drewN)⟩
            · skip
              go_enter Tryd.func49, Tryd.ntmps49
              go_wp2
              repeat (go_quiet (fail); go_wp2)
              go_ret
              go_light
              rw [show Jd.fine _ _ = (decide (0 < h) && (decide (0 < d1) && (d1 != h && (decide (1 ≤ d3) && decide (d3 ≤ 4)))), ⟨e, h, r⟩) by simp [Jd.fine, *]]
              exact ⟨by simp [*], by repeat (with_reducible first | exact HJ.out | apply Blk.alloc | apply Blk.drewN), by repeat (with_reducible first | exact Upd.refl _ _ | apply Upd.alloc | apply Upd.drewN)⟩
          · skip
            go_enter Tryd.func49, Tryd.ntmps49
            go_wp2
            repeat (go_quiet (fail); go_wp2)
            go_ret
            go_light
            rw [show Jd.fine _ _ = (decide (0 < h) && (decide (0 < d1) && (d1 != h && (decide (1 ≤ d3) && decide (d3 ≤ 4)))), ⟨e, h, r⟩) by simp [Jd.fine, *]]
            exact ⟨by simp [*], by repeat (with_reducible first | exact HJ.out | apply Blk.alloc | apply Blk.drewN), by repeat (with_reducible first | exact Upd.refl _ _ | apply Upd.alloc | apply Upd.drewN)⟩
        · skip
          go_enter Tryd.func49, Tryd.ntmps49
          go_wp2
          repeat (go_quiet (fail); go_wp2)
          go_ret
          go_light
          rw [show Jd.fine _ _ = (decide (0 < h) && (decide (0 < d1) && (d1 != h && (decide (1 ≤ d3) && decide (d3 ≤ 4)))), ⟨e, h, r⟩) by simp [Jd.fine, *]]
          exact ⟨by simp [*], by repeat (with_reducible first | exact HJ.out | apply Blk.alloc | apply Blk.drewN), by repeat (with_reducible first | exact Upd.refl _ _ | apply Upd.alloc | apply Upd.drewN)⟩
      · skip
        go_enter Tryd.func49, Tryd.ntmps49
        go_wp2
        repeat (go_quiet (fail); go_wp2)
        go_ret
        go_light
        rw [show Jd.fine _ _ = (decide (0 < h) && (decide (0 < d1) && (d1 != h && (decide (1 ≤ d3) && decide (d3 ≤ 4)))), ⟨e, h, r⟩) by simp [Jd.fine, *]]
        exact ⟨by simp [*], by repeat (with_reducible first | exact HJ.out | apply Blk.alloc | apply Blk.drewN), by repeat (with_reducible first | exact Upd.refl _ _ | apply Upd.alloc | apply Upd.drewN)⟩
    · skip
      go_enter Tryd.func49, Tryd.ntmps49
      go_wp2
      repeat (go_quiet (fail); go_wp2)
      go_ret
      go_light
      rw [show Jd.fine _ _ = (false, ⟨e, h, r⟩) by simp [Jd.fine, *]]
      exact ⟨by simp [*], by repeat (with_reducible first | exact HJ.out | apply Blk.alloc | apply Blk.drewN), by repeat (with_reducible first | exact Upd.refl _ _ | apply Upd.alloc | apply Upd.drewN)⟩
  have n7 : (d0 == 7) = false := beq_eq_false_iff_ne.2 k7
  clear k7
  by_cases k6 : d0 = 6
  · subst k6
    rcases Bool.eq_false_or_eq_true (d2 == 0) with a2 | a2
    · skip
      rcases Bool.eq_false_or_eq_true (d3 == 0) with a3 | a3
      · skip
        go_enter Tryd.func49, Tryd.ntmps49
        go_wp2
        repeat (go_quiet (fail); go_wp2)
        go_ret
        go_light
        rw [show Jd.fine _ _ = (decide (0 < d1), ⟨e, h, r⟩) by simp [Jd.fine, *]]
        exact ⟨by simp [*], by repeat (with_reducible first | exact HJ.out | apply Blk.alloc | apply Blk.drewN), by repeat (with_reducible first | exact Upd.refl _ _ | apply Upd.alloc | apply Upd.drewN)⟩
      · skip
        go_enter Tryd.func49, Tryd.ntmps49
        go_wp2
        repeat (go_quiet (fail); go_wp2)
        go_ret
        go_light
        rw [show Jd.fine _ _ = (false, ⟨e, h, r⟩) by simp [Jd.fine, *]]
        exact ⟨by simp [*], by repeat (with_reducible first | exact HJ.out | apply Blk.alloc | apply Blk.drewN), by repeat (with_reducible first | exact Upd.refl _ _ | apply Upd.alloc | apply Upd.drewN)⟩
    · skip
      go_enter Tryd.func49, Tryd.ntmps49
      go_wp2
      repeat (go_quiet (fail); go_wp2)
      go_ret
      go_light
      rw [show Jd.fine _ _ = (false, ⟨e, h, r⟩) by simp [Jd.fine, *]]
      exact ⟨by simp [*], by repeat (with_reducible first | exact HJ.out | apply Blk.alloc | apply Blk.drewN), by repeat (with_reducible first | exact Upd.refl _ _ | apply Upd.alloc | apply Upd.drewN)⟩
  have n6 : (d0 == 6) = false := beq_eq_false_iff_ne.2 k6
  clear k6
  by_cases k15 : d0 = 15
  · subst k15
    rcases Bool.eq_false_or_eq_true (d2 == e) with a2 | a2
    · skip
      rcases Bool.eq_false_or_eq_true (d3 == 0) with a3 | a3
      · skip
        go_enter Tryd.func49, Tryd.ntmps49
        go_wp2
        repeat (go_quiet (fail); go_wp2)
        go_ret
        go_light
        rw [show Jd.fine _ _ = (decide (0 < d1), ⟨e, h, r⟩) by simp [Jd.fine, *]]
        exact ⟨by simp [*], by repeat (with_reducible first | exact HJ.out | apply Blk.alloc | apply Blk.drewN), by repeat (with_reducible first | exact Upd.refl _ _ | apply Upd.alloc | apply Upd.drewN)⟩
      · skip
        go_enter Tryd.func49, Tryd.ntmps49
        go_wp2
        repeat (go_quiet (fail); go_wp2)
        go_ret
        go_light
        rw [show Jd.fine _ _ = (false, ⟨e, h, r⟩) by simp [Jd.fine, *]]
        exact ⟨by simp [*], by repeat (with_reducible first | exact HJ.out | apply Blk.alloc | apply Blk.drewN), by repeat (with_reducible first | exact Upd.refl _ _ | apply Upd.alloc | apply Upd.drewN)⟩
    · skip
      go_enter Tryd.func49, Tryd.ntmps49
      go_wp2
      repeat (go_quiet (fail); go_wp2)
      go_ret
      go_light
      rw [show Jd.fine _ _ = (false, ⟨e, h, r⟩) by simp [Jd.fine, *]]
      exact ⟨by simp [*], by repeat (with_reducible first | exact HJ.out | apply Blk.alloc | apply Blk.drewN), by repeat (with_reducible first | exact Upd.refl _ _ | apply Upd.alloc | apply Upd.drewN)⟩
  have n15 : (d0 == 15) = false := beq_eq_false_iff_ne.2 k15
  clear k15
  go_enter Tryd.func49, Tryd.ntmps49
  go_wp2
  repeat (go_quiet (fail); go_wp2)
  go_ret
  go_light
  rw [show Jd.fine _ _ = (false, ⟨e, h, r⟩) by simp [Jd.fine, *]]
  exact ⟨by simp [*], by repeat (with_reducible first | exact HJ.out | apply Blk.alloc | apply Blk.drewN), by repeat (with_reducible first | exact Upd.refl _ _ | apply Upd.alloc | apply Upd.drewN)⟩
end Go.Proofs.YtmokcebpgfhddaaDoor

/- squelchlaw23.live: the chapter's example is true. -/
import Derived.Test.YtmokcebpgfhddaaDoorTellC
import Derived.Test.YtmokcebpgfhddaaDoorJudge
namespace Go.Proofs.YtmokcebpgfhddaaDoor
open Go.RowKit

theorem R_lit1 (W : World) (t : TypeId) (a b c d : Int) (F : Nat → Prop) (hF : F W.heap.size) : decC.R F (W.alloc (.cells #[.int .i64 a, .int .i64 b, .int .i64 c, .int .i64 d] t)) (some ⟨W.heap.size, 0, none⟩) [⟨a, b, c, d⟩] := fun i hi => by
  obtain rfl : i = 0 := by simpa using hi
  refine ⟨_, 0, _, rfl, hF, by simp, rfl, fun j hj => ?_⟩
  rw [(Blk.new W _ t).cell]
  simp [Dec.cells]
theorem R_lit2 (W : World) (t : TypeId) (a b c d a' b' c' d' : Int) (F : Nat → Prop) (hF : F W.heap.size) : decC.R F (W.alloc (.cells #[.int .i64 a, .int .i64 b, .int .i64 c, .int .i64 d, .int .i64 a', .int .i64 b', .int .i64 c', .int .i64 d'] t)) (some ⟨W.heap.size, 0, none⟩) [⟨a, b, c, d⟩, ⟨a', b', c', d'⟩] := fun i hi => by
  have hi2 : i < 2 := hi
  rcases i with _ | _ | i
  · refine ⟨_, 0, _, rfl, hF, by simp, rfl, fun j hj => ?_⟩
    rw [(Blk.new W _ t).cell]
    have hj : j < 4 := hj
    rcases j with _ | _ | _ | _ | j <;> first | omega | rfl
  · refine ⟨_, 0, _, rfl, hF, by simp, rfl, fun j hj => ?_⟩
    rw [(Blk.new W _ t).cell]
    have hj : j < 4 := hj
    rcases j with _ | _ | _ | _ | j <;> first | omega | rfl
  · omega

set_option maxHeartbeats 8000000 in
theorem live_calls (w : World) (ht : TabOk w) : Calls Tryd.prog 11 #[] w fun e w' => e = .returned (.bool true) ∧ Below w.heap.size w w' := by
  have HT := Lib.hid ht; clear ht
  have j1 : runJ ⟨0, 0, false⟩ [⟨5, 1, 2, 0⟩] = (0, ⟨0, 0, false⟩) := by decide +kernel
  have j2 : (runJ ⟨0, 0, false⟩ [⟨5, 1, 1, 0⟩, ⟨10, 0, 1, 0⟩]).1 = 2 := by decide +kernel
  have J1 := Lib.hid j1; have J2 := Lib.hid j2; clear j1 j2
  have p1 := Lib.hid (show points ⟨#[97, 66]⟩ = [97, 46] by decide +kernel)
  have p2 := Lib.hid (show Lib.itoa (-7) = [45, 55] by decide +kernel)
  go_enter Tryd.func11, Tryd.ntmps11
  go_wp2_with fail
  refine (judge_calls _ _ 1 [⟨5, 1, 2, 0⟩] (by decide) (fun _ => True) (R_lit1 w 23 5 1 2 0 _ trivial)).mono ?_
  rw [J1.out]
  rintro e w1 ⟨rfl, hb1⟩
  have HB1 := Lib.hid (((Below.refl _ w).alloc (Nat.le_refl _) _).trans (hb1.mono (by simp))); clear hb1
  go_wp2_with fail
  refine (judge_calls _ _ 2 [⟨5, 1, 1, 0⟩, ⟨10, 0, 1, 0⟩] (by decide) (fun _ => True) (R_lit2 w1 23 5 1 1 0 10 0 1 0 _ trivial)).mono ?_
  rw [J2.out]
  rintro e w2 ⟨rfl, hb2⟩
  have HB2 := Lib.hid (HB1.out.trans (((Below.refl _ w1).alloc (Nat.le_refl _) _).trans (hb2.mono (by simp)) |>.mono HB1.out.size)); clear hb2
  go_wp2_with fail
  refine (tell_str ⟨#[97, 66]⟩ w2 (by decide +kernel)).mono ?_
  rw [p1.out]
  rintro e w3 ⟨rfl, hb3⟩
  have HB3 := Lib.hid (HB2.out.trans (hb3.mono HB2.out.size)); clear hb3
  go_wp2_with fail
  refine (tell_int (-7) w3 (by decide) (by decide) (HT.out.below HB3.out)).mono ?_
  rw [p2.out]
  rintro e w4 ⟨rfl, hb4⟩
  have HB4 := Lib.hid (HB3.out.trans (hb4.mono HB3.out.size)); clear hb4
  go_wp2_with fail
  refine (tell_nil w4).mono ?_
  rintro e w5 ⟨rfl, hb5⟩
  have HB5 := Lib.hid (HB4.out.trans (hb5.mono HB4.out.size)); clear hb5
  go_wp2
  go_ret
  go_light
  exact ⟨by simp, HB5.out⟩
end Go.Proofs.YtmokcebpgfhddaaDoor

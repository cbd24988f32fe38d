/- squelchref23.Judge judges as far as runJ says. -/
import Derived.Test.YtmokcebpgfhddaaDoorStep
import Derived.Test.YtmokcebpgfhddaaDoorCut
namespace Go.Proofs.YtmokcebpgfhddaaDoor
open Go.RowKit

theorem step_calls' (j : Jd) (d : Dec) (ok : Bool) (e' h' : Int) (r' : Bool) (hs : j.stp d = (ok, ⟨e', h', r'⟩)) (w : World) :
    Calls Tryd.prog 50 #[.agg j.cells, .agg d.cells] w fun e w' => e = .returned (.tuple #[.agg #[.int .i64 e', .int .i64 h', .bool r'], .bool ok]) ∧ Below w.heap.size w w' := by
  have := step_calls j d w
  rw [hs] at this
  exact this

set_option maxHeartbeats 4000000 in
theorem refJudge_calls (w : World) (A : Option Addr) (c : Nat) (l : List Dec) (hl : l.length ≤ 35184372088832) (F : Nat → Prop) (hr : decC.R F w A l) :
    Calls Tryd.prog 20 #[.slice A l.length c] w fun e w' => e = .returned (.tuple #[.int .i64 (runJ ⟨0, 0, false⟩ l).1, .bool (decide ((runJ ⟨0, 0, false⟩ l).1 = l.length))]) ∧ Below w.heap.size w w' := by
  have HR := Lib.hid hr; clear hr
  obtain ⟨R, hR⟩ : ∃ R, R = runJ ⟨0, 0, false⟩ l := ⟨_, rfl⟩
  rw [← hR]
  have HRun := Lib.hid hR; clear hR
  go_enter Tryd.func20, Tryd.ntmps20
  go_wp2
  go_loopw [12] (fun i wr => ∃ (k : Nat) (j : Jd), k ≤ l.length ∧ i = .int .i64 k ∧ Hid (Blk wr w.heap.size j.cells 97) ∧ Hid (Below w.heap.size w wr) ∧ Hid (R.1 = (runJ j (l.drop k)).1 + k))
    (fun i _ => l.length - (intOf i).toNat)
  case atStart => exact ⟨0, ⟨0, 0, false⟩, Nat.zero_le _, rfl, Blk.new _ _ _, (Below.refl _ _).alloc (Nat.le_refl _) _, by rw [HRun.out]; rfl⟩
  case round =>
    obtain ⟨k, j, hk, rfl, hj, hb, hrun⟩ := hrel
    by_cases hlt : k < l.length
    · obtain ⟨b, o, rfl, hbl, h0, h1, h2, h3⟩ := (HR.out.keep (Keeps.of_below hb.out fun k _ h => h)).dec k hlt
      have hs : w.heap.size < wr.heap.size := hj.out.lt
      have hd := Lib.hid (drop_cons l k hlt)
      obtain ⟨⟨a0, a1, a2, a3⟩, hdd⟩ : ∃ d, d = l[k] := ⟨_, rfl⟩
      rw [← hdd] at h0 h1 h2 h3 hd
      clear hdd
      have hd' := hd; clear hd
      obtain ⟨je, jh, jr⟩ := j
      have c0 : wr.cell? ⟨w.heap.size, 0, none⟩ = some (.int .i64 je) := hj.out.cell 0
      have c1 : wr.cell? ⟨w.heap.size, 1, none⟩ = some (.int .i64 jh) := hj.out.cell 1
      have c2 : wr.cell? ⟨w.heap.size, 2, none⟩ = some (.bool jr) := hj.out.cell 2
      obtain ⟨ok, ⟨e', h', r'⟩, hst⟩ : ∃ ok j', Jd.stp ⟨je, jh, jr⟩ ⟨a0, a1, a2, a3⟩ = (ok, j') := ⟨_, _, rfl⟩
      have HS := Lib.hid hst; clear hst
      rcases ok with _ | _
      · go_wp2_with fail
        refine (step_calls' ⟨je, jh, jr⟩ ⟨a0, a1, a2, a3⟩ _ _ _ _ HS.out _).mono ?_
        rintro e w2 ⟨rfl, hb2⟩
        have HB2 := Lib.hid ((hb.out.alloc (Nat.le_of_lt hs) _).trans (hb2.mono (by simp; omega)))
        have hs2 : w.heap.size ≤ w2.heap.size := by have := hb2.size; simp at this; omega
        clear hb2
        go_wp2
        go_ret2
        go_light
        have e2 : R.1 = k := by
          have e1 := hrun.out
          rw [hd'.out, runJ_more, if_neg (by
            have := HS.out
            unfold Jd.stp at this
            split at this
            · rename_i hf; rw [this] at hf; cases hf
            · assumption)] at e1
          simpa using e1
        rw [e2]
        exact ⟨by simp; omega, HB2.out.alloc hs2 _⟩
      · go_wp2_with fail
        refine (step_calls' ⟨je, jh, jr⟩ ⟨a0, a1, a2, a3⟩ _ _ _ _ HS.out _).mono ?_
        rintro e w2 ⟨rfl, hb2⟩
        have HB2 := Lib.hid ((hb.out.alloc (Nat.le_of_lt hs) _).trans (hb2.mono (by simp; omega)))
        have hj2' : Blk w2 w.heap.size (Jd.cells ⟨je, jh, jr⟩) 97 := (hb2.block w.heap.size (by simp; omega)).trans (hj.out.alloc _)
        have hj2 := Lib.hid hj2'; clear hj2'
        have hs2 : w.heap.size < w2.heap.size := hj2.out.lt
        clear hb2
        have c0 : w2.cell? ⟨w.heap.size, 0, none⟩ = some (.int .i64 je) := hj2.out.cell 0
        have c1 : w2.cell? ⟨w.heap.size, 1, none⟩ = some (.int .i64 jh) := hj2.out.cell 1
        have c2 : w2.cell? ⟨w.heap.size, 2, none⟩ = some (.bool jr) := hj2.out.cell 2
        have f0 : ∀ i, w2.frozen? ⟨w.heap.size, i, none⟩ = false := hj2.out.frozen
        go_wp2
        refine ⟨⟨k + 1, ⟨e', h', r'⟩, by omega, by go_num, (((hj2.out.set 0 _).set 1 _).set 2 _).alloc _, ?_, ?_⟩, by simp [intOf]; omega⟩
        · exact (((HB2.out.setCell (p := ⟨w.heap.size, 0, none⟩) (Nat.le_refl _) _).setCell (p := ⟨w.heap.size, 1, none⟩) (Nat.le_refl _) _).setCell (p := ⟨w.heap.size, 2, none⟩) (Nat.le_refl _) _).alloc (by simp; omega) _
        · have e1 := hrun.out
          have hf := HS.out
          unfold Jd.stp at hf
          split at hf
          · rename_i hff
            rw [hd'.out, runJ_more, if_pos hff, hf] at e1
            show R.1 = _
            rw [e1]; simp; omega
          · cases hf
    · have e1 : R.1 = (runJ j (l.drop k)).1 + k := hrun.out
      rw [List.drop_of_length_le (by omega)] at e1
      have e2 : R.1 = l.length := by simp only [runJ] at e1; omega
      have E2 := Lib.hid e2
      clear e1 e2
      go_wp2
      go_ret2
      rw [E2.out]
      exact ⟨by simp, hb.out⟩
end Go.Proofs.YtmokcebpgfhddaaDoor

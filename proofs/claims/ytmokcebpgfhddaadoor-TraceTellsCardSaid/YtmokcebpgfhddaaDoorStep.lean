/- squelchref23.Step. -/
import Derived.Test.YtmokcebpgfhddaaDoorJudge
import Derived.BigRegion
import Derived.Laws.ResultCell
namespace Go.Proofs.YtmokcebpgfhddaaDoor
open Go.RowKit
def Jd.stp (j : Jd) (d : Dec) : Bool × Jd := if (j.fine d).1 = true then j.fine d else (false, j)
/-- What stands while Step judges: the state's box, the decision's box, the result's cell. -/
structure SS (w : World) (N : Nat) (cs0 cs1 : Array Value) (W : World) : Prop where
  b0 : Blk W N cs0 97
  b1 : Blk W (N + 1) cs1 23
  b2 : ∃ cs, cs.size = 3 ∧ Blk W (N + 1 + 1) cs 97
  u : Below w.heap.size w W
theorem SS.drew {w W : World} {N : Nat} {cs0 cs1 : Array Value} (h : SS w N cs0 cs1 W) : SS w N cs0 cs1 W.drew := ⟨h.b0, h.b1, h.b2, ⟨h.u.os, h.u.tape, h.u.output, h.u.size, h.u.block⟩⟩
theorem SS.setCell {w W : World} {cs0 cs1 : Array Value} (h : SS w w.heap.size cs0 cs1 W) (i : Nat) (v : Value) : SS w w.heap.size cs0 cs1 (W.setCell ⟨w.heap.size + 1 + 1, i, none⟩ v) :=
  ⟨h.b0.far _ _ (by show w.heap.size ≠ w.heap.size + 1 + 1; omega), h.b1.far _ _ (by show w.heap.size + 1 ≠ w.heap.size + 1 + 1; omega),
    h.b2.elim fun cs hc => ⟨cs.setIfInBounds i v, by simp [hc.1], hc.2.set i v⟩,
    h.u.upd ((Upd.refl (fun k => w.heap.size ≤ k) W).setCell ⟨w.heap.size + 1 + 1, i, none⟩ v (.inl (by show w.heap.size ≤ w.heap.size + 1 + 1; omega))) (fun _ h => h) h.u.size⟩
theorem SS.init (w : World) (cs0 cs1 cs2 : Array Value) (h2 : cs2.size = 3) : SS w w.heap.size cs0 cs1 (((w.alloc (.cells cs0 97)).alloc (.cells cs1 23)).alloc (.cells cs2 97)) :=
  ⟨((Blk.new _ _ _).alloc _).alloc _, by have := (Blk.new (w.alloc (.cells cs0 97)) cs1 23).alloc (.cells cs2 97); simpa using this, ⟨cs2, h2, by have := Blk.new ((w.alloc (.cells cs0 97)).alloc (.cells cs1 23)) cs2 97; simpa using this⟩,
    (((Below.refl _ w).alloc (Nat.le_refl _) _).alloc (by simp) _).alloc (by simp; omega) _⟩
/-- The cells that a walk reads. -/
theorem SS.all {w W : World} {N : Nat} {a b c d0 d1 d2 d3 : Value} (h : SS w N #[a, b, c] #[d0, d1, d2, d3] W) : SS w N #[a, b, c] #[d0, d1, d2, d3] W ∧ W.cell? ⟨N, 0, none⟩ = some a ∧ W.cell? ⟨N, 1, none⟩ = some b ∧ W.cell? ⟨N, 2, none⟩ = some c ∧
    W.cell? ⟨N + 1, 0, none⟩ = some d0 ∧ W.cell? ⟨N + 1, 1, none⟩ = some d1 ∧ W.cell? ⟨N + 1, 2, none⟩ = some d2 ∧ W.cell? ⟨N + 1, 3, none⟩ = some d3 ∧
    (∃ x, W.cell? ⟨N + 1 + 1, 0, none⟩ = some x) ∧ (∃ x, W.cell? ⟨N + 1 + 1, 1, none⟩ = some x) ∧ (∃ x, W.cell? ⟨N + 1 + 1, 2, none⟩ = some x) ∧ (∀ i, W.frozen? ⟨N + 1 + 1, i, none⟩ = false) := by
  obtain ⟨cs, hs, hc⟩ := h.b2
  refine ⟨h, h.b0.cell 0, h.b0.cell 1, h.b0.cell 2, h.b1.cell 0, h.b1.cell 1, h.b1.cell 2, h.b1.cell 3, ⟨cs[0], ?_⟩, ⟨cs[1], ?_⟩, ⟨cs[2], ?_⟩, hc.frozen⟩
  · rw [hc.cell 0]; simp
  · rw [hc.cell 1]; simp
  · rw [hc.cell 2]; simp

set_option maxRecDepth 100000 in
set_option maxHeartbeats 8000000 in
theorem step5 (e h : Int) (r : Bool) (d1 d2 d3 : Int) (w : World) :
    Calls Tryd.prog 50 #[.agg (Jd.cells ⟨e, h, r⟩), .agg (Dec.cells ⟨5, d1, d2, d3⟩)] w fun e' w' => e' = .returned (.tuple #[.agg (Jd.stp ⟨e, h, r⟩ ⟨5, d1, d2, d3⟩).2.cells, .bool (Jd.stp ⟨e, h, r⟩ ⟨5, d1, d2, d3⟩).1]) ∧ Below w.heap.size w w' := by
  simp only [Dec.cells, Jd.cells]
  by_cases p0 : d3 = 0
  · skip
    subst p0
    by_cases a1 : 0 < d1
    · skip
      have a1a : decide (0 < d1) = true := decide_eq_true a1
      have a1b : ¬ d1 ≤ 0 := by omega
      by_cases a2 : d2 = wrap64 (e + 1)
      · skip
        have a2a : (d2 == wrap64 (e + 1)) = true := beq_iff_eq.2 a2
        have a2b : (d2 != wrap64 (e + 1)) = false := by simp [a2]
        have hs : Jd.stp ⟨e, h, r⟩ ⟨5, d1, d2, 0⟩ = (true, ⟨d2, d1, false⟩) := by first | (simp [Jd.stp, Jd.fine, Jd.grant, *]; done) | (subst_vars; simp_all [Jd.stp, Jd.fine, Jd.grant]; done) | (have hh : ¬ d1 ≤ 0 := (by omega); subst_vars; simp [Jd.stp, Jd.fine, Jd.grant, hh]; done) | (simp [Jd.stp, Jd.fine, *]; split <;> simp_all; done) | (simp [Jd.stp, Jd.fine, Jd.grant, *] <;> simp_all)
        rw [hs]
        clear hs
        clear a2
        go_enter Tryd.func50, Tryd.ntmps50
        go_wp2
        refine bodyPost_ret (v := .tuple #[.agg #[.int .i64 d2, .int .i64 d1, .bool false], .bool true]) (by rw [results_cell_tmp rfl]; simp [go_sem, Result.andThen]) rfl ?_
        refine ⟨rfl, ?_⟩
        repeat' (with_reducible first | exact Below.refl _ _ | refine Below.drew ?_ | refine Below.alloc ?_ (by simp <;> omega) _)
      · skip
        have a2a : (d2 == wrap64 (e + 1)) = false := beq_eq_false_iff_ne.2 a2
        have a2b : (d2 != wrap64 (e + 1)) = true := by simp [a2]
        by_cases a3 : d2 = e
        · skip
          have a3a : (d2 == e) = true := beq_iff_eq.2 a3
          have a3b : (d2 != e) = false := by simp [a3]
          by_cases a4 : d1 = h
          · skip
            have a4a : (d1 == h) = true := beq_iff_eq.2 a4
            have a4b : (d1 != h) = false := by simp [a4]
            cases r
            · skip
              have hs : Jd.stp ⟨e, h, false⟩ ⟨5, d1, d2, 0⟩ = (true, ⟨e, h, false⟩) := by first | (simp [Jd.stp, Jd.fine, Jd.grant, *]; done) | (subst_vars; simp_all [Jd.stp, Jd.fine, Jd.grant]; done) | (have hh : ¬ d1 ≤ 0 := (by omega); subst_vars; simp [Jd.stp, Jd.fine, Jd.grant, hh]; done) | (simp [Jd.stp, Jd.fine, *]; split <;> simp_all; done) | (simp [Jd.stp, Jd.fine, Jd.grant, *] <;> simp_all)
              rw [hs]
              clear hs
              clear a3
              clear a4
              go_enter Tryd.func50, Tryd.ntmps50
              go_wp2
              have hss := SS.init w #[.int .i64 e, .int .i64 h, .bool false] #[.int .i64 5, .int .i64 d1, .int .i64 d2, .int .i64 0] #[.int .i64 0, .int .i64 0, .bool false] rfl
              generalize World.alloc (World.alloc (World.alloc w _) _) _ = W at hss ⊢
              obtain ⟨_, c0, c1, c2, g0, g1, g2, g3, ⟨x0, r0⟩, ⟨x1, r1⟩, ⟨x2, r2⟩, rf⟩ := hss.all
              go_region
              go_wp2
              refine bodyPost_ret (v := .tuple #[.agg #[.int .i64 e, .int .i64 h, .bool false], .bool true]) (by rw [results_cell_tmp rfl]; simp [go_sem, Result.andThen, *]) rfl ?_
              first | exact ⟨rfl, (SS.drew (SS.setCell (SS.setCell (SS.setCell hss _ _) _ _) _ _)).u⟩ | exact ⟨rfl, (SS.setCell (SS.setCell (SS.setCell (SS.drew hss) _ _) _ _) _ _).u⟩
            · skip
              have hs : Jd.stp ⟨e, h, true⟩ ⟨5, d1, d2, 0⟩ = (false, ⟨e, h, true⟩) := by first | (simp [Jd.stp, Jd.fine, Jd.grant, *]; done) | (subst_vars; simp_all [Jd.stp, Jd.fine, Jd.grant]; done) | (have hh : ¬ d1 ≤ 0 := (by omega); subst_vars; simp [Jd.stp, Jd.fine, Jd.grant, hh]; done) | (simp [Jd.stp, Jd.fine, *]; split <;> simp_all; done) | (simp [Jd.stp, Jd.fine, Jd.grant, *] <;> simp_all)
              rw [hs]
              clear hs
              clear a3
              clear a4
              go_enter Tryd.func50, Tryd.ntmps50
              go_wp2
              have hss := SS.init w #[.int .i64 e, .int .i64 h, .bool true] #[.int .i64 5, .int .i64 d1, .int .i64 d2, .int .i64 0] #[.int .i64 0, .int .i64 0, .bool false] rfl
              generalize World.alloc (World.alloc (World.alloc w _) _) _ = W at hss ⊢
              obtain ⟨_, c0, c1, c2, g0, g1, g2, g3, ⟨x0, r0⟩, ⟨x1, r1⟩, ⟨x2, r2⟩, rf⟩ := hss.all
              go_region
              go_wp2
              refine bodyPost_ret (v := .tuple #[.agg #[.int .i64 e, .int .i64 h, .bool true], .bool false]) (by rw [results_cell_tmp rfl]; simp [go_sem, Result.andThen, *]) rfl ?_
              first | exact ⟨rfl, (SS.drew (SS.setCell (SS.setCell (SS.setCell hss _ _) _ _) _ _)).u⟩ | exact ⟨rfl, (SS.setCell (SS.setCell (SS.setCell (SS.drew hss) _ _) _ _) _ _).u⟩
          · skip
            have a4a : (d1 == h) = false := beq_eq_false_iff_ne.2 a4
            have a4b : (d1 != h) = true := by simp [a4]
            have hs : Jd.stp ⟨e, h, r⟩ ⟨5, d1, d2, 0⟩ = (false, ⟨e, h, r⟩) := by first | (simp [Jd.stp, Jd.fine, Jd.grant, *]; done) | (subst_vars; simp_all [Jd.stp, Jd.fine, Jd.grant]; done) | (have hh : ¬ d1 ≤ 0 := (by omega); subst_vars; simp [Jd.stp, Jd.fine, Jd.grant, hh]; done) | (simp [Jd.stp, Jd.fine, *]; split <;> simp_all; done) | (simp [Jd.stp, Jd.fine, Jd.grant, *] <;> simp_all)
            rw [hs]
            clear hs
            clear a3
            go_enter Tryd.func50, Tryd.ntmps50
            go_wp2
            have hss := SS.init w #[.int .i64 e, .int .i64 h, .bool r] #[.int .i64 5, .int .i64 d1, .int .i64 d2, .int .i64 0] #[.int .i64 0, .int .i64 0, .bool false] rfl
            generalize World.alloc (World.alloc (World.alloc w _) _) _ = W at hss ⊢
            obtain ⟨_, c0, c1, c2, g0, g1, g2, g3, ⟨x0, r0⟩, ⟨x1, r1⟩, ⟨x2, r2⟩, rf⟩ := hss.all
            go_region
            go_wp2
            refine bodyPost_ret (v := .tuple #[.agg #[.int .i64 e, .int .i64 h, .bool r], .bool false]) (by rw [results_cell_tmp rfl]; simp [go_sem, Result.andThen, *]) rfl ?_
            first | exact ⟨rfl, (SS.drew (SS.setCell (SS.setCell (SS.setCell hss _ _) _ _) _ _)).u⟩ | exact ⟨rfl, (SS.setCell (SS.setCell (SS.setCell (SS.drew hss) _ _) _ _) _ _).u⟩
        · skip
          have a3a : (d2 == e) = false := beq_eq_false_iff_ne.2 a3
          have a3b : (d2 != e) = true := by simp [a3]
          have hs : Jd.stp ⟨e, h, r⟩ ⟨5, d1, d2, 0⟩ = (false, ⟨e, h, r⟩) := by first | (simp [Jd.stp, Jd.fine, Jd.grant, *]; done) | (subst_vars; simp_all [Jd.stp, Jd.fine, Jd.grant]; done) | (have hh : ¬ d1 ≤ 0 := (by omega); subst_vars; simp [Jd.stp, Jd.fine, Jd.grant, hh]; done) | (simp [Jd.stp, Jd.fine, *]; split <;> simp_all; done) | (simp [Jd.stp, Jd.fine, Jd.grant, *] <;> simp_all)
          rw [hs]
          clear hs
          go_enter Tryd.func50, Tryd.ntmps50
          go_wp2
          have hss := SS.init w #[.int .i64 e, .int .i64 h, .bool r] #[.int .i64 5, .int .i64 d1, .int .i64 d2, .int .i64 0] #[.int .i64 0, .int .i64 0, .bool false] rfl
          generalize World.alloc (World.alloc (World.alloc w _) _) _ = W at hss ⊢
          obtain ⟨_, c0, c1, c2, g0, g1, g2, g3, ⟨x0, r0⟩, ⟨x1, r1⟩, ⟨x2, r2⟩, rf⟩ := hss.all
          go_region
          go_wp2
          refine bodyPost_ret (v := .tuple #[.agg #[.int .i64 e, .int .i64 h, .bool r], .bool false]) (by rw [results_cell_tmp rfl]; simp [go_sem, Result.andThen, *]) rfl ?_
          first | exact ⟨rfl, (SS.drew (SS.setCell (SS.setCell (SS.setCell hss _ _) _ _) _ _)).u⟩ | exact ⟨rfl, (SS.setCell (SS.setCell (SS.setCell (SS.drew hss) _ _) _ _) _ _).u⟩
    · skip
      have a1a : decide (0 < d1) = false := decide_eq_false a1
      have a1b : d1 ≤ 0 := by omega
      have hs : Jd.stp ⟨e, h, r⟩ ⟨5, d1, d2, 0⟩ = (false, ⟨e, h, r⟩) := by first | (simp [Jd.stp, Jd.fine, Jd.grant, *]; done) | (subst_vars; simp_all [Jd.stp, Jd.fine, Jd.grant]; done) | (have hh : ¬ d1 ≤ 0 := (by omega); subst_vars; simp [Jd.stp, Jd.fine, Jd.grant, hh]; done) | (simp [Jd.stp, Jd.fine, *]; split <;> simp_all; done) | (simp [Jd.stp, Jd.fine, Jd.grant, *] <;> simp_all)
      rw [hs]
      clear hs
      go_enter Tryd.func50, Tryd.ntmps50
      go_wp2
      have hss := SS.init w #[.int .i64 e, .int .i64 h, .bool r] #[.int .i64 5, .int .i64 d1, .int .i64 d2, .int .i64 0] #[.int .i64 0, .int .i64 0, .bool false] rfl
      generalize World.alloc (World.alloc (World.alloc w _) _) _ = W at hss ⊢
      obtain ⟨_, c0, c1, c2, g0, g1, g2, g3, ⟨x0, r0⟩, ⟨x1, r1⟩, ⟨x2, r2⟩, rf⟩ := hss.all
      go_region
      go_wp2
      refine bodyPost_ret (v := .tuple #[.agg #[.int .i64 e, .int .i64 h, .bool r], .bool false]) (by rw [results_cell_tmp rfl]; simp [go_sem, Result.andThen, *]) rfl ?_
      first | exact ⟨rfl, (SS.drew (SS.setCell (SS.setCell (SS.setCell hss _ _) _ _) _ _)).u⟩ | exact ⟨rfl, (SS.setCell (SS.setCell (SS.setCell (SS.drew hss) _ _) _ _) _ _).u⟩
  · skip
    have p0a : (d3 == 0) = false := beq_eq_false_iff_ne.2 p0
    have p0b : (d3 != 0) = true := by simp [p0]
    have hs : Jd.stp ⟨e, h, r⟩ ⟨5, d1, d2, d3⟩ = (false, ⟨e, h, r⟩) := by first | (simp [Jd.stp, Jd.fine, Jd.grant, *]; done) | (subst_vars; simp_all [Jd.stp, Jd.fine, Jd.grant]; done) | (have hh : ¬ d1 ≤ 0 := (by omega); subst_vars; simp [Jd.stp, Jd.fine, Jd.grant, hh]; done) | (simp [Jd.stp, Jd.fine, *]; split <;> simp_all; done) | (simp [Jd.stp, Jd.fine, Jd.grant, *] <;> simp_all)
    rw [hs]
    clear hs
    go_enter Tryd.func50, Tryd.ntmps50
    go_wp2
    refine bodyPost_ret (v := .tuple #[.agg #[.int .i64 e, .int .i64 h, .bool r], .bool false]) (by rw [results_cell_tmp rfl]; simp [go_sem, Result.andThen]) rfl ?_
    refine ⟨rfl, ?_⟩
    repeat' (with_reducible first | exact Below.refl _ _ | refine Below.drew ?_ | refine Below.alloc ?_ (by simp <;> omega) _)

set_option maxRecDepth 100000 in
set_option maxHeartbeats 8000000 in
theorem step8 (e h : Int) (r : Bool) (d1 d2 d3 : Int) (w : World) :
    Calls Tryd.prog 50 #[.agg (Jd.cells ⟨e, h, r⟩), .agg (Dec.cells ⟨8, d1, d2, d3⟩)] w fun e' w' => e' = .returned (.tuple #[.agg (Jd.stp ⟨e, h, r⟩ ⟨8, d1, d2, d3⟩).2.cells, .bool (Jd.stp ⟨e, h, r⟩ ⟨8, d1, d2, d3⟩).1]) ∧ Below w.heap.size w w' := by
  simp only [Dec.cells, Jd.cells]
  by_cases p0 : d3 = 0
  · skip
    subst p0
    by_cases a1 : 0 < h
    · skip
      have a1a : decide (0 < h) = true := decide_eq_true a1
      have a1b : ¬ h ≤ 0 := by omega
      by_cases a2 : d1 = h
      · skip
        have a2a : (d1 == h) = true := beq_iff_eq.2 a2
        have a2b : (d1 != h) = false := by simp [a2]
        by_cases a3 : d2 = e
        · skip
          have a3a : (d2 == e) = true := beq_iff_eq.2 a3
          have a3b : (d2 != e) = false := by simp [a3]
          have hs : Jd.stp ⟨e, h, r⟩ ⟨8, d1, d2, 0⟩ = (true, ⟨e, h, true⟩) := by first | (simp [Jd.stp, Jd.fine, Jd.grant, *]; done) | (subst_vars; simp_all [Jd.stp, Jd.fine, Jd.grant]; done) | (have hh : ¬ d1 ≤ 0 := (by omega); subst_vars; simp [Jd.stp, Jd.fine, Jd.grant, hh]; done) | (simp [Jd.stp, Jd.fine, *]; split <;> simp_all; done) | (simp [Jd.stp, Jd.fine, Jd.grant, *] <;> simp_all)
          rw [hs]
          clear hs
          clear a2
          clear a3
          go_enter Tryd.func50, Tryd.ntmps50
          go_wp2
          refine bodyPost_ret (v := .tuple #[.agg #[.int .i64 e, .int .i64 h, .bool true], .bool true]) (by rw [results_cell_tmp rfl]; simp [go_sem, Result.andThen]) rfl ?_
          refine ⟨rfl, ?_⟩
          repeat' (with_reducible first | exact Below.refl _ _ | refine Below.drew ?_ | refine Below.alloc ?_ (by simp <;> omega) _)
        · skip
          have a3a : (d2 == e) = false := beq_eq_false_iff_ne.2 a3
          have a3b : (d2 != e) = true := by simp [a3]
          have hs : Jd.stp ⟨e, h, r⟩ ⟨8, d1, d2, 0⟩ = (false, ⟨e, h, r⟩) := by first | (simp [Jd.stp, Jd.fine, Jd.grant, *]; done) | (subst_vars; simp_all [Jd.stp, Jd.fine, Jd.grant]; done) | (have hh : ¬ d1 ≤ 0 := (by omega); subst_vars; simp [Jd.stp, Jd.fine, Jd.grant, hh]; done) | (simp [Jd.stp, Jd.fine, *]; split <;> simp_all; done) | (simp [Jd.stp, Jd.fine, Jd.grant, *] <;> simp_all)
          rw [hs]
          clear hs
          clear a2
          go_enter Tryd.func50, Tryd.ntmps50
          go_wp2
          refine bodyPost_ret (v := .tuple #[.agg #[.int .i64 e, .int .i64 h, .bool r], .bool false]) (by rw [results_cell_tmp rfl]; simp [go_sem, Result.andThen]) rfl ?_
          refine ⟨rfl, ?_⟩
          repeat' (with_reducible first | exact Below.refl _ _ | refine Below.drew ?_ | refine Below.alloc ?_ (by simp <;> omega) _)
      · skip
        have a2a : (d1 == h) = false := beq_eq_false_iff_ne.2 a2
        have a2b : (d1 != h) = true := by simp [a2]
        have hs : Jd.stp ⟨e, h, r⟩ ⟨8, d1, d2, 0⟩ = (false, ⟨e, h, r⟩) := by first | (simp [Jd.stp, Jd.fine, Jd.grant, *]; done) | (subst_vars; simp_all [Jd.stp, Jd.fine, Jd.grant]; done) | (have hh : ¬ d1 ≤ 0 := (by omega); subst_vars; simp [Jd.stp, Jd.fine, Jd.grant, hh]; done) | (simp [Jd.stp, Jd.fine, *]; split <;> simp_all; done) | (simp [Jd.stp, Jd.fine, Jd.grant, *] <;> simp_all)
        rw [hs]
        clear hs
        go_enter Tryd.func50, Tryd.ntmps50
        go_wp2
        refine bodyPost_ret (v := .tuple #[.agg #[.int .i64 e, .int .i64 h, .bool r], .bool false]) (by rw [results_cell_tmp rfl]; simp [go_sem, Result.andThen]) rfl ?_
        refine ⟨rfl, ?_⟩
        repeat' (with_reducible first | exact Below.refl _ _ | refine Below.drew ?_ | refine Below.alloc ?_ (by simp <;> omega) _)
    · skip
      have a1a : decide (0 < h) = false := decide_eq_false a1
      have a1b : h ≤ 0 := by omega
      have hs : Jd.stp ⟨e, h, r⟩ ⟨8, d1, d2, 0⟩ = (false, ⟨e, h, r⟩) := by first | (simp [Jd.stp, Jd.fine, Jd.grant, *]; done) | (subst_vars; simp_all [Jd.stp, Jd.fine, Jd.grant]; done) | (have hh : ¬ d1 ≤ 0 := (by omega); subst_vars; simp [Jd.stp, Jd.fine, Jd.grant, hh]; done) | (simp [Jd.stp, Jd.fine, *]; split <;> simp_all; done) | (simp [Jd.stp, Jd.fine, Jd.grant, *] <;> simp_all)
      rw [hs]
      clear hs
      go_enter Tryd.func50, Tryd.ntmps50
      go_wp2
      refine bodyPost_ret (v := .tuple #[.agg #[.int .i64 e, .int .i64 h, .bool r], .bool false]) (by rw [results_cell_tmp rfl]; simp [go_sem, Result.andThen]) rfl ?_
      refine ⟨rfl, ?_⟩
      repeat' (with_reducible first | exact Below.refl _ _ | refine Below.drew ?_ | refine Below.alloc ?_ (by simp <;> omega) _)
  · skip
    have p0a : (d3 == 0) = false := beq_eq_false_iff_ne.2 p0
    have p0b : (d3 != 0) = true := by simp [p0]
    have hs : Jd.stp ⟨e, h, r⟩ ⟨8, d1, d2, d3⟩ = (false, ⟨e, h, r⟩) := by first | (simp [Jd.stp, Jd.fine, Jd.grant, *]; done) | (subst_vars; simp_all [Jd.stp, Jd.fine, Jd.grant]; done) | (have hh : ¬ d1 ≤ 0 := (by omega); subst_vars; simp [Jd.stp, Jd.fine, Jd.grant, hh]; done) | (simp [Jd.stp, Jd.fine, *]; split <;> simp_all; done) | (simp [Jd.stp, Jd.fine, Jd.grant, *] <;> simp_all)
    rw [hs]
    clear hs
    go_enter Tryd.func50, Tryd.ntmps50
    go_wp2
    refine bodyPost_ret (v := .tuple #[.agg #[.int .i64 e, .int .i64 h, .bool r], .bool false]) (by rw [results_cell_tmp rfl]; simp [go_sem, Result.andThen]) rfl ?_
    refine ⟨rfl, ?_⟩
    repeat' (with_reducible first | exact Below.refl _ _ | refine Below.drew ?_ | refine Below.alloc ?_ (by simp <;> omega) _)

set_option maxRecDepth 100000 in
set_option maxHeartbeats 8000000 in
theorem step10 (e h : Int) (r : Bool) (d1 d2 d3 : Int) (w : World) :
    Calls Tryd.prog 50 #[.agg (Jd.cells ⟨e, h, r⟩), .agg (Dec.cells ⟨10, d1, d2, d3⟩)] w fun e' w' => e' = .returned (.tuple #[.agg (Jd.stp ⟨e, h, r⟩ ⟨10, d1, d2, d3⟩).2.cells, .bool (Jd.stp ⟨e, h, r⟩ ⟨10, d1, d2, d3⟩).1]) ∧ Below w.heap.size w w' := by
  simp only [Dec.cells, Jd.cells]
  by_cases p0 : d3 = 0
  · skip
    subst p0
    by_cases a1 : 0 < h
    · skip
      have a1a : decide (0 < h) = true := decide_eq_true a1
      have a1b : ¬ h ≤ 0 := by omega
      by_cases a2 : d1 = 0
      · skip
        subst a2
        by_cases a3 : d2 = e
        · skip
          have a3a : (d2 == e) = true := beq_iff_eq.2 a3
          have a3b : (d2 != e) = false := by simp [a3]
          have hs : Jd.stp ⟨e, h, r⟩ ⟨10, 0, d2, 0⟩ = (true, ⟨e, 0, false⟩) := by first | (simp [Jd.stp, Jd.fine, Jd.grant, *]; done) | (subst_vars; simp_all [Jd.stp, Jd.fine, Jd.grant]; done) | (have hh : ¬ d1 ≤ 0 := (by omega); subst_vars; simp [Jd.stp, Jd.fine, Jd.grant, hh]; done) | (simp [Jd.stp, Jd.fine, *]; split <;> simp_all; done) | (simp [Jd.stp, Jd.fine, Jd.grant, *] <;> simp_all)
          rw [hs]
          clear hs
          clear a3
          go_enter Tryd.func50, Tryd.ntmps50
          go_wp2
          refine bodyPost_ret (v := .tuple #[.agg #[.int .i64 e, .int .i64 0, .bool false], .bool true]) (by rw [results_cell_tmp rfl]; simp [go_sem, Result.andThen]) rfl ?_
          refine ⟨rfl, ?_⟩
          repeat' (with_reducible first | exact Below.refl _ _ | refine Below.drew ?_ | refine Below.alloc ?_ (by simp <;> omega) _)
        · skip
          have a3a : (d2 == e) = false := beq_eq_false_iff_ne.2 a3
          have a3b : (d2 != e) = true := by simp [a3]
          have hs : Jd.stp ⟨e, h, r⟩ ⟨10, 0, d2, 0⟩ = (false, ⟨e, h, r⟩) := by first | (simp [Jd.stp, Jd.fine, Jd.grant, *]; done) | (subst_vars; simp_all [Jd.stp, Jd.fine, Jd.grant]; done) | (have hh : ¬ d1 ≤ 0 := (by omega); subst_vars; simp [Jd.stp, Jd.fine, Jd.grant, hh]; done) | (simp [Jd.stp, Jd.fine, *]; split <;> simp_all; done) | (simp [Jd.stp, Jd.fine, Jd.grant, *] <;> simp_all)
          rw [hs]
          clear hs
          go_enter Tryd.func50, Tryd.ntmps50
          go_wp2
          refine bodyPost_ret (v := .tuple #[.agg #[.int .i64 e, .int .i64 h, .bool r], .bool false]) (by rw [results_cell_tmp rfl]; simp [go_sem, Result.andThen]) rfl ?_
          refine ⟨rfl, ?_⟩
          repeat' (with_reducible first | exact Below.refl _ _ | refine Below.drew ?_ | refine Below.alloc ?_ (by simp <;> omega) _)
      · skip
        have a2a : (d1 == 0) = false := beq_eq_false_iff_ne.2 a2
        have a2b : (d1 != 0) = true := by simp [a2]
        have hs : Jd.stp ⟨e, h, r⟩ ⟨10, d1, d2, 0⟩ = (false, ⟨e, h, r⟩) := by first | (simp [Jd.stp, Jd.fine, Jd.grant, *]; done) | (subst_vars; simp_all [Jd.stp, Jd.fine, Jd.grant]; done) | (have hh : ¬ d1 ≤ 0 := (by omega); subst_vars; simp [Jd.stp, Jd.fine, Jd.grant, hh]; done) | (simp [Jd.stp, Jd.fine, *]; split <;> simp_all; done) | (simp [Jd.stp, Jd.fine, Jd.grant, *] <;> simp_all)
        rw [hs]
        clear hs
        go_enter Tryd.func50, Tryd.ntmps50
        go_wp2
        refine bodyPost_ret (v := .tuple #[.agg #[.int .i64 e, .int .i64 h, .bool r], .bool false]) (by rw [results_cell_tmp rfl]; simp [go_sem, Result.andThen]) rfl ?_
        refine ⟨rfl, ?_⟩
        repeat' (with_reducible first | exact Below.refl _ _ | refine Below.drew ?_ | refine Below.alloc ?_ (by simp <;> omega) _)
    · skip
      have a1a : decide (0 < h) = false := decide_eq_false a1
      have a1b : h ≤ 0 := by omega
      have hs : Jd.stp ⟨e, h, r⟩ ⟨10, d1, d2, 0⟩ = (false, ⟨e, h, r⟩) := by first | (simp [Jd.stp, Jd.fine, Jd.grant, *]; done) | (subst_vars; simp_all [Jd.stp, Jd.fine, Jd.grant]; done) | (have hh : ¬ d1 ≤ 0 := (by omega); subst_vars; simp [Jd.stp, Jd.fine, Jd.grant, hh]; done) | (simp [Jd.stp, Jd.fine, *]; split <;> simp_all; done) | (simp [Jd.stp, Jd.fine, Jd.grant, *] <;> simp_all)
      rw [hs]
      clear hs
      go_enter Tryd.func50, Tryd.ntmps50
      go_wp2
      refine bodyPost_ret (v := .tuple #[.agg #[.int .i64 e, .int .i64 h, .bool r], .bool false]) (by rw [results_cell_tmp rfl]; simp [go_sem, Result.andThen]) rfl ?_
      refine ⟨rfl, ?_⟩
      repeat' (with_reducible first | exact Below.refl _ _ | refine Below.drew ?_ | refine Below.alloc ?_ (by simp <;> omega) _)
  · skip
    have p0a : (d3 == 0) = false := beq_eq_false_iff_ne.2 p0
    have p0b : (d3 != 0) = true := by simp [p0]
    have hs : Jd.stp ⟨e, h, r⟩ ⟨10, d1, d2, d3⟩ = (false, ⟨e, h, r⟩) := by first | (simp [Jd.stp, Jd.fine, Jd.grant, *]; done) | (subst_vars; simp_all [Jd.stp, Jd.fine, Jd.grant]; done) | (have hh : ¬ d1 ≤ 0 := (by omega); subst_vars; simp [Jd.stp, Jd.fine, Jd.grant, hh]; done) | (simp [Jd.stp, Jd.fine, *]; split <;> simp_all; done) | (simp [Jd.stp, Jd.fine, Jd.grant, *] <;> simp_all)
    rw [hs]
    clear hs
    go_enter Tryd.func50, Tryd.ntmps50
    go_wp2
    refine bodyPost_ret (v := .tuple #[.agg #[.int .i64 e, .int .i64 h, .bool r], .bool false]) (by rw [results_cell_tmp rfl]; simp [go_sem, Result.andThen]) rfl ?_
    refine ⟨rfl, ?_⟩
    repeat' (with_reducible first | exact Below.refl _ _ | refine Below.drew ?_ | refine Below.alloc ?_ (by simp <;> omega) _)

set_option maxRecDepth 100000 in
set_option maxHeartbeats 8000000 in
theorem step7 (e h : Int) (r : Bool) (d1 d2 d3 : Int) (w : World) :
    Calls Tryd.prog 50 #[.agg (Jd.cells ⟨e, h, r⟩), .agg (Dec.cells ⟨7, d1, d2, d3⟩)] w fun e' w' => e' = .returned (.tuple #[.agg (Jd.stp ⟨e, h, r⟩ ⟨7, d1, d2, d3⟩).2.cells, .bool (Jd.stp ⟨e, h, r⟩ ⟨7, d1, d2, d3⟩).1]) ∧ Below w.heap.size w w' := by
  simp only [Dec.cells, Jd.cells]
  by_cases p0 : d2 = 0
  · skip
    subst p0
    by_cases a1 : 0 < h
    · skip
      have a1a : decide (0 < h) = true := decide_eq_true a1
      have a1b : ¬ h ≤ 0 := by omega
      by_cases a2 : 0 < d1
      · skip
        have a2a : decide (0 < d1) = true := decide_eq_true a2
        have a2b : ¬ d1 ≤ 0 := by omega
        by_cases a3 : d1 = h
        · skip
          have a3a : (d1 == h) = true := beq_iff_eq.2 a3
          have a3b : (d1 != h) = false := by simp [a3]
          have hs : Jd.stp ⟨e, h, r⟩ ⟨7, d1, 0, d3⟩ = (false, ⟨e, h, r⟩) := by first | (simp [Jd.stp, Jd.fine, Jd.grant, *]; done) | (subst_vars; simp_all [Jd.stp, Jd.fine, Jd.grant]; done) | (have hh : ¬ d1 ≤ 0 := (by omega); subst_vars; simp [Jd.stp, Jd.fine, Jd.grant, hh]; done) | (simp [Jd.stp, Jd.fine, *]; split <;> simp_all; done) | (simp [Jd.stp, Jd.fine, Jd.grant, *] <;> simp_all)
          rw [hs]
          clear hs
          clear a3
          go_enter Tryd.func50, Tryd.ntmps50
          go_wp2
          have hss := SS.init w #[.int .i64 e, .int .i64 h, .bool r] #[.int .i64 7, .int .i64 d1, .int .i64 0, .int .i64 d3] #[.int .i64 0, .int .i64 0, .bool false] rfl
          generalize World.alloc (World.alloc (World.alloc w _) _) _ = W at hss ⊢
          obtain ⟨_, c0, c1, c2, g0, g1, g2, g3, ⟨x0, r0⟩, ⟨x1, r1⟩, ⟨x2, r2⟩, rf⟩ := hss.all
          go_region
          go_wp2
          refine bodyPost_ret (v := .tuple #[.agg #[.int .i64 e, .int .i64 h, .bool r], .bool false]) (by rw [results_cell_tmp rfl]; simp [go_sem, Result.andThen, *]) rfl ?_
          first | exact ⟨rfl, (SS.drew (SS.setCell (SS.setCell (SS.setCell hss _ _) _ _) _ _)).u⟩ | exact ⟨rfl, (SS.setCell (SS.setCell (SS.setCell (SS.drew hss) _ _) _ _) _ _).u⟩
        · skip
          have a3a : (d1 == h) = false := beq_eq_false_iff_ne.2 a3
          have a3b : (d1 != h) = true := by simp [a3]
          by_cases a4 : 1 ≤ d3
          · skip
            have a4a : decide (1 ≤ d3) = true := decide_eq_true a4
            by_cases a5 : d3 ≤ 4
            · skip
              have a5a : decide (d3 ≤ 4) = true := decide_eq_true a5
              have hs : Jd.stp ⟨e, h, r⟩ ⟨7, d1, 0, d3⟩ = (true, ⟨e, h, r⟩) := by first | (simp [Jd.stp, Jd.fine, Jd.grant, *]; done) | (subst_vars; simp_all [Jd.stp, Jd.fine, Jd.grant]; done) | (have hh : ¬ d1 ≤ 0 := (by omega); subst_vars; simp [Jd.stp, Jd.fine, Jd.grant, hh]; done) | (simp [Jd.stp, Jd.fine, *]; split <;> simp_all; done) | (simp [Jd.stp, Jd.fine, Jd.grant, *] <;> simp_all)
              rw [hs]
              clear hs
              go_enter Tryd.func50, Tryd.ntmps50
              go_wp2
              have hss := SS.init w #[.int .i64 e, .int .i64 h, .bool r] #[.int .i64 7, .int .i64 d1, .int .i64 0, .int .i64 d3] #[.int .i64 0, .int .i64 0, .bool false] rfl
              generalize World.alloc (World.alloc (World.alloc w _) _) _ = W at hss ⊢
              obtain ⟨_, c0, c1, c2, g0, g1, g2, g3, ⟨x0, r0⟩, ⟨x1, r1⟩, ⟨x2, r2⟩, rf⟩ := hss.all
              go_region
              go_wp2
              refine bodyPost_ret (v := .tuple #[.agg #[.int .i64 e, .int .i64 h, .bool r], .bool true]) (by rw [results_cell_tmp rfl]; simp [go_sem, Result.andThen, *]) rfl ?_
              first | exact ⟨rfl, (SS.drew (SS.setCell (SS.setCell (SS.setCell hss _ _) _ _) _ _)).u⟩ | exact ⟨rfl, (SS.setCell (SS.setCell (SS.setCell (SS.drew hss) _ _) _ _) _ _).u⟩
            · skip
              have a5a : decide (d3 ≤ 4) = false := decide_eq_false a5
              have hs : Jd.stp ⟨e, h, r⟩ ⟨7, d1, 0, d3⟩ = (false, ⟨e, h, r⟩) := by first | (simp [Jd.stp, Jd.fine, Jd.grant, *]; done) | (subst_vars; simp_all [Jd.stp, Jd.fine, Jd.grant]; done) | (have hh : ¬ d1 ≤ 0 := (by omega); subst_vars; simp [Jd.stp, Jd.fine, Jd.grant, hh]; done) | (simp [Jd.stp, Jd.fine, *]; split <;> simp_all; done) | (simp [Jd.stp, Jd.fine, Jd.grant, *] <;> simp_all)
              rw [hs]
              clear hs
              go_enter Tryd.func50, Tryd.ntmps50
              go_wp2
              have hss := SS.init w #[.int .i64 e, .int .i64 h, .bool r] #[.int .i64 7, .int .i64 d1, .int .i64 0, .int .i64 d3] #[.int .i64 0, .int .i64 0, .bool false] rfl
              generalize World.alloc (World.alloc (World.alloc w _) _) _ = W at hss ⊢
              obtain ⟨_, c0, c1, c2, g0, g1, g2, g3, ⟨x0, r0⟩, ⟨x1, r1⟩, ⟨x2, r2⟩, rf⟩ := hss.all
              go_region
              go_wp2
              refine bodyPost_ret (v := .tuple #[.agg #[.int .i64 e, .int .i64 h, .bool r], .bool false]) (by rw [results_cell_tmp rfl]; simp [go_sem, Result.andThen, *]) rfl ?_
              first | exact ⟨rfl, (SS.drew (SS.setCell (SS.setCell (SS.setCell hss _ _) _ _) _ _)).u⟩ | exact ⟨rfl, (SS.setCell (SS.setCell (SS.setCell (SS.drew hss) _ _) _ _) _ _).u⟩
          · skip
            have a4a : decide (1 ≤ d3) = false := decide_eq_false a4
            have hs : Jd.stp ⟨e, h, r⟩ ⟨7, d1, 0, d3⟩ = (false, ⟨e, h, r⟩) := by first | (simp [Jd.stp, Jd.fine, Jd.grant, *]; done) | (subst_vars; simp_all [Jd.stp, Jd.fine, Jd.grant]; done) | (have hh : ¬ d1 ≤ 0 := (by omega); subst_vars; simp [Jd.stp, Jd.fine, Jd.grant, hh]; done) | (simp [Jd.stp, Jd.fine, *]; split <;> simp_all; done) | (simp [Jd.stp, Jd.fine, Jd.grant, *] <;> simp_all)
            rw [hs]
            clear hs
            go_enter Tryd.func50, Tryd.ntmps50
            go_wp2
            have hss := SS.init w #[.int .i64 e, .int .i64 h, .bool r] #[.int .i64 7, .int .i64 d1, .int .i64 0, .int .i64 d3] #[.int .i64 0, .int .i64 0, .bool false] rfl
            generalize World.alloc (World.alloc (World.alloc w _) _) _ = W at hss ⊢
            obtain ⟨_, c0, c1, c2, g0, g1, g2, g3, ⟨x0, r0⟩, ⟨x1, r1⟩, ⟨x2, r2⟩, rf⟩ := hss.all
            go_region
            go_wp2
            refine bodyPost_ret (v := .tuple #[.agg #[.int .i64 e, .int .i64 h, .bool r], .bool false]) (by rw [results_cell_tmp rfl]; simp [go_sem, Result.andThen, *]) rfl ?_
            first | exact ⟨rfl, (SS.drew (SS.setCell (SS.setCell (SS.setCell hss _ _) _ _) _ _)).u⟩ | exact ⟨rfl, (SS.setCell (SS.setCell (SS.setCell (SS.drew hss) _ _) _ _) _ _).u⟩
      · skip
        have a2a : decide (0 < d1) = false := decide_eq_false a2
        have a2b : d1 ≤ 0 := by omega
        have hs : Jd.stp ⟨e, h, r⟩ ⟨7, d1, 0, d3⟩ = (false, ⟨e, h, r⟩) := by first | (simp [Jd.stp, Jd.fine, Jd.grant, *]; done) | (subst_vars; simp_all [Jd.stp, Jd.fine, Jd.grant]; done) | (have hh : ¬ d1 ≤ 0 := (by omega); subst_vars; simp [Jd.stp, Jd.fine, Jd.grant, hh]; done) | (simp [Jd.stp, Jd.fine, *]; split <;> simp_all; done) | (simp [Jd.stp, Jd.fine, Jd.grant, *] <;> simp_all)
        rw [hs]
        clear hs
        go_enter Tryd.func50, Tryd.ntmps50
        go_wp2
        have hss := SS.init w #[.int .i64 e, .int .i64 h, .bool r] #[.int .i64 7, .int .i64 d1, .int .i64 0, .int .i64 d3] #[.int .i64 0, .int .i64 0, .bool false] rfl
        generalize World.alloc (World.alloc (World.alloc w _) _) _ = W at hss ⊢
        obtain ⟨_, c0, c1, c2, g0, g1, g2, g3, ⟨x0, r0⟩, ⟨x1, r1⟩, ⟨x2, r2⟩, rf⟩ := hss.all
        go_region
        go_wp2
        refine bodyPost_ret (v := .tuple #[.agg #[.int .i64 e, .int .i64 h, .bool r], .bool false]) (by rw [results_cell_tmp rfl]; simp [go_sem, Result.andThen, *]) rfl ?_
        first | exact ⟨rfl, (SS.drew (SS.setCell (SS.setCell (SS.setCell hss _ _) _ _) _ _)).u⟩ | exact ⟨rfl, (SS.setCell (SS.setCell (SS.setCell (SS.drew hss) _ _) _ _) _ _).u⟩
    · skip
      have a1a : decide (0 < h) = false := decide_eq_false a1
      have a1b : h ≤ 0 := by omega
      have hs : Jd.stp ⟨e, h, r⟩ ⟨7, d1, 0, d3⟩ = (false, ⟨e, h, r⟩) := by first | (simp [Jd.stp, Jd.fine, Jd.grant, *]; done) | (subst_vars; simp_all [Jd.stp, Jd.fine, Jd.grant]; done) | (have hh : ¬ d1 ≤ 0 := (by omega); subst_vars; simp [Jd.stp, Jd.fine, Jd.grant, hh]; done) | (simp [Jd.stp, Jd.fine, *]; split <;> simp_all; done) | (simp [Jd.stp, Jd.fine, Jd.grant, *] <;> simp_all)
      rw [hs]
      clear hs
      go_enter Tryd.func50, Tryd.ntmps50
      go_wp2
      have hss := SS.init w #[.int .i64 e, .int .i64 h, .bool r] #[.int .i64 7, .int .i64 d1, .int .i64 0, .int .i64 d3] #[.int .i64 0, .int .i64 0, .bool false] rfl
      generalize World.alloc (World.alloc (World.alloc w _) _) _ = W at hss ⊢
      obtain ⟨_, c0, c1, c2, g0, g1, g2, g3, ⟨x0, r0⟩, ⟨x1, r1⟩, ⟨x2, r2⟩, rf⟩ := hss.all
      go_region
      go_wp2
      refine bodyPost_ret (v := .tuple #[.agg #[.int .i64 e, .int .i64 h, .bool r], .bool false]) (by rw [results_cell_tmp rfl]; simp [go_sem, Result.andThen, *]) rfl ?_
      first | exact ⟨rfl, (SS.drew (SS.setCell (SS.setCell (SS.setCell hss _ _) _ _) _ _)).u⟩ | exact ⟨rfl, (SS.setCell (SS.setCell (SS.setCell (SS.drew hss) _ _) _ _) _ _).u⟩
  · skip
    have p0a : (d2 == 0) = false := beq_eq_false_iff_ne.2 p0
    have p0b : (d2 != 0) = true := by simp [p0]
    have hs : Jd.stp ⟨e, h, r⟩ ⟨7, d1, d2, d3⟩ = (false, ⟨e, h, r⟩) := by first | (simp [Jd.stp, Jd.fine, Jd.grant, *]; done) | (subst_vars; simp_all [Jd.stp, Jd.fine, Jd.grant]; done) | (have hh : ¬ d1 ≤ 0 := (by omega); subst_vars; simp [Jd.stp, Jd.fine, Jd.grant, hh]; done) | (simp [Jd.stp, Jd.fine, *]; split <;> simp_all; done) | (simp [Jd.stp, Jd.fine, Jd.grant, *] <;> simp_all)
    rw [hs]
    clear hs
    go_enter Tryd.func50, Tryd.ntmps50
    go_wp2
    refine bodyPost_ret (v := .tuple #[.agg #[.int .i64 e, .int .i64 h, .bool r], .bool false]) (by rw [results_cell_tmp rfl]; simp [go_sem, Result.andThen]) rfl ?_
    refine ⟨rfl, ?_⟩
    repeat' (with_reducible first | exact Below.refl _ _ | refine Below.drew ?_ | refine Below.alloc ?_ (by simp <;> omega) _)

set_option maxRecDepth 100000 in
set_option maxHeartbeats 8000000 in
theorem step6 (e h : Int) (r : Bool) (d1 d2 d3 : Int) (w : World) :
    Calls Tryd.prog 50 #[.agg (Jd.cells ⟨e, h, r⟩), .agg (Dec.cells ⟨6, d1, d2, d3⟩)] w fun e' w' => e' = .returned (.tuple #[.agg (Jd.stp ⟨e, h, r⟩ ⟨6, d1, d2, d3⟩).2.cells, .bool (Jd.stp ⟨e, h, r⟩ ⟨6, d1, d2, d3⟩).1]) ∧ Below w.heap.size w w' := by
  simp only [Dec.cells, Jd.cells]
  by_cases p0 : d3 = 0
  · skip
    subst p0
    by_cases p2 : d2 = 0
    · skip
      subst p2
      by_cases a1 : 0 < d1
      · skip
        have a1a : decide (0 < d1) = true := decide_eq_true a1
        have a1b : ¬ d1 ≤ 0 := by omega
        have hs : Jd.stp ⟨e, h, r⟩ ⟨6, d1, 0, 0⟩ = (true, ⟨e, h, r⟩) := by first | (simp [Jd.stp, Jd.fine, Jd.grant, *]; done) | (subst_vars; simp_all [Jd.stp, Jd.fine, Jd.grant]; done) | (have hh : ¬ d1 ≤ 0 := (by omega); subst_vars; simp [Jd.stp, Jd.fine, Jd.grant, hh]; done) | (simp [Jd.stp, Jd.fine, *]; split <;> simp_all; done) | (simp [Jd.stp, Jd.fine, Jd.grant, *] <;> simp_all)
        rw [hs]
        clear hs
        go_enter Tryd.func50, Tryd.ntmps50
        go_wp2
        have hss := SS.init w #[.int .i64 e, .int .i64 h, .bool r] #[.int .i64 6, .int .i64 d1, .int .i64 0, .int .i64 0] #[.int .i64 0, .int .i64 0, .bool false] rfl
        generalize World.alloc (World.alloc (World.alloc w _) _) _ = W at hss ⊢
        obtain ⟨_, c0, c1, c2, g0, g1, g2, g3, ⟨x0, r0⟩, ⟨x1, r1⟩, ⟨x2, r2⟩, rf⟩ := hss.all
        go_region
        go_wp2
        refine bodyPost_ret (v := .tuple #[.agg #[.int .i64 e, .int .i64 h, .bool r], .bool true]) (by rw [results_cell_tmp rfl]; simp [go_sem, Result.andThen, *]) rfl ?_
        first | exact ⟨rfl, (SS.drew (SS.setCell (SS.setCell (SS.setCell hss _ _) _ _) _ _)).u⟩ | exact ⟨rfl, (SS.setCell (SS.setCell (SS.setCell (SS.drew hss) _ _) _ _) _ _).u⟩
      · skip
        have a1a : decide (0 < d1) = false := decide_eq_false a1
        have a1b : d1 ≤ 0 := by omega
        have hs : Jd.stp ⟨e, h, r⟩ ⟨6, d1, 0, 0⟩ = (false, ⟨e, h, r⟩) := by first | (simp [Jd.stp, Jd.fine, Jd.grant, *]; done) | (subst_vars; simp_all [Jd.stp, Jd.fine, Jd.grant]; done) | (have hh : ¬ d1 ≤ 0 := (by omega); subst_vars; simp [Jd.stp, Jd.fine, Jd.grant, hh]; done) | (simp [Jd.stp, Jd.fine, *]; split <;> simp_all; done) | (simp [Jd.stp, Jd.fine, Jd.grant, *] <;> simp_all)
        rw [hs]
        clear hs
        go_enter Tryd.func50, Tryd.ntmps50
        go_wp2
        have hss := SS.init w #[.int .i64 e, .int .i64 h, .bool r] #[.int .i64 6, .int .i64 d1, .int .i64 0, .int .i64 0] #[.int .i64 0, .int .i64 0, .bool false] rfl
        generalize World.alloc (World.alloc (World.alloc w _) _) _ = W at hss ⊢
        obtain ⟨_, c0, c1, c2, g0, g1, g2, g3, ⟨x0, r0⟩, ⟨x1, r1⟩, ⟨x2, r2⟩, rf⟩ := hss.all
        go_region
        go_wp2
        refine bodyPost_ret (v := .tuple #[.agg #[.int .i64 e, .int .i64 h, .bool r], .bool false]) (by rw [results_cell_tmp rfl]; simp [go_sem, Result.andThen, *]) rfl ?_
        first | exact ⟨rfl, (SS.drew (SS.setCell (SS.setCell (SS.setCell hss _ _) _ _) _ _)).u⟩ | exact ⟨rfl, (SS.setCell (SS.setCell (SS.setCell (SS.drew hss) _ _) _ _) _ _).u⟩
    · skip
      have p2a : (d2 == 0) = false := beq_eq_false_iff_ne.2 p2
      have p2b : (d2 != 0) = true := by simp [p2]
      have hs : Jd.stp ⟨e, h, r⟩ ⟨6, d1, d2, 0⟩ = (false, ⟨e, h, r⟩) := by first | (simp [Jd.stp, Jd.fine, Jd.grant, *]; done) | (subst_vars; simp_all [Jd.stp, Jd.fine, Jd.grant]; done) | (have hh : ¬ d1 ≤ 0 := (by omega); subst_vars; simp [Jd.stp, Jd.fine, Jd.grant, hh]; done) | (simp [Jd.stp, Jd.fine, *]; split <;> simp_all; done) | (simp [Jd.stp, Jd.fine, Jd.grant, *] <;> simp_all)
      rw [hs]
      clear hs
      go_enter Tryd.func50, Tryd.ntmps50
      go_wp2
      refine bodyPost_ret (v := .tuple #[.agg #[.int .i64 e, .int .i64 h, .bool r], .bool false]) (by rw [results_cell_tmp rfl]; simp [go_sem, Result.andThen]) rfl ?_
      refine ⟨rfl, ?_⟩
      repeat' (with_reducible first | exact Below.refl _ _ | refine Below.drew ?_ | refine Below.alloc ?_ (by simp <;> omega) _)
  · skip
    have p0a : (d3 == 0) = false := beq_eq_false_iff_ne.2 p0
    have p0b : (d3 != 0) = true := by simp [p0]
    have hs : Jd.stp ⟨e, h, r⟩ ⟨6, d1, d2, d3⟩ = (false, ⟨e, h, r⟩) := by first | (simp [Jd.stp, Jd.fine, Jd.grant, *]; done) | (subst_vars; simp_all [Jd.stp, Jd.fine, Jd.grant]; done) | (have hh : ¬ d1 ≤ 0 := (by omega); subst_vars; simp [Jd.stp, Jd.fine, Jd.grant, hh]; done) | (simp [Jd.stp, Jd.fine, *]; split <;> simp_all; done) | (simp [Jd.stp, Jd.fine, Jd.grant, *] <;> simp_all)
    rw [hs]
    clear hs
    go_enter Tryd.func50, Tryd.ntmps50
    go_wp2
    refine bodyPost_ret (v := .tuple #[.agg #[.int .i64 e, .int .i64 h, .bool r], .bool false]) (by rw [results_cell_tmp rfl]; simp [go_sem, Result.andThen]) rfl ?_
    refine ⟨rfl, ?_⟩
    repeat' (with_reducible first | exact Below.refl _ _ | refine Below.drew ?_ | refine Below.alloc ?_ (by simp <;> omega) _)

set_option maxRecDepth 100000 in
set_option maxHeartbeats 8000000 in
theorem step15 (e h : Int) (r : Bool) (d1 d2 d3 : Int) (w : World) :
    Calls Tryd.prog 50 #[.agg (Jd.cells ⟨e, h, r⟩), .agg (Dec.cells ⟨15, d1, d2, d3⟩)] w fun e' w' => e' = .returned (.tuple #[.agg (Jd.stp ⟨e, h, r⟩ ⟨15, d1, d2, d3⟩).2.cells, .bool (Jd.stp ⟨e, h, r⟩ ⟨15, d1, d2, d3⟩).1]) ∧ Below w.heap.size w w' := by
  simp only [Dec.cells, Jd.cells]
  by_cases p0 : d3 = 0
  · skip
    subst p0
    by_cases a1 : 0 < d1
    · skip
      have a1a : decide (0 < d1) = true := decide_eq_true a1
      have a1b : ¬ d1 ≤ 0 := by omega
      by_cases a2 : d2 = e
      · skip
        have a2a : (d2 == e) = true := beq_iff_eq.2 a2
        have a2b : (d2 != e) = false := by simp [a2]
        have hs : Jd.stp ⟨e, h, r⟩ ⟨15, d1, d2, 0⟩ = (true, ⟨e, h, r⟩) := by first | (simp [Jd.stp, Jd.fine, Jd.grant, *]; done) | (subst_vars; simp_all [Jd.stp, Jd.fine, Jd.grant]; done) | (have hh : ¬ d1 ≤ 0 := (by omega); subst_vars; simp [Jd.stp, Jd.fine, Jd.grant, hh]; done) | (simp [Jd.stp, Jd.fine, *]; split <;> simp_all; done) | (simp [Jd.stp, Jd.fine, Jd.grant, *] <;> simp_all)
        rw [hs]
        clear hs
        clear a2
        go_enter Tryd.func50, Tryd.ntmps50
        go_wp2
        have hss := SS.init w #[.int .i64 e, .int .i64 h, .bool r] #[.int .i64 15, .int .i64 d1, .int .i64 d2, .int .i64 0] #[.int .i64 0, .int .i64 0, .bool false] rfl
        generalize World.alloc (World.alloc (World.alloc w _) _) _ = W at hss ⊢
        obtain ⟨_, c0, c1, c2, g0, g1, g2, g3, ⟨x0, r0⟩, ⟨x1, r1⟩, ⟨x2, r2⟩, rf⟩ := hss.all
        go_region
        go_wp2
        refine bodyPost_ret (v := .tuple #[.agg #[.int .i64 e, .int .i64 h, .bool r], .bool true]) (by rw [results_cell_tmp rfl]; simp [go_sem, Result.andThen, *]) rfl ?_
        first | exact ⟨rfl, (SS.drew (SS.setCell (SS.setCell (SS.setCell hss _ _) _ _) _ _)).u⟩ | exact ⟨rfl, (SS.setCell (SS.setCell (SS.setCell (SS.drew hss) _ _) _ _) _ _).u⟩
      · skip
        have a2a : (d2 == e) = false := beq_eq_false_iff_ne.2 a2
        have a2b : (d2 != e) = true := by simp [a2]
        have hs : Jd.stp ⟨e, h, r⟩ ⟨15, d1, d2, 0⟩ = (false, ⟨e, h, r⟩) := by first | (simp [Jd.stp, Jd.fine, Jd.grant, *]; done) | (subst_vars; simp_all [Jd.stp, Jd.fine, Jd.grant]; done) | (have hh : ¬ d1 ≤ 0 := (by omega); subst_vars; simp [Jd.stp, Jd.fine, Jd.grant, hh]; done) | (simp [Jd.stp, Jd.fine, *]; split <;> simp_all; done) | (simp [Jd.stp, Jd.fine, Jd.grant, *] <;> simp_all)
        rw [hs]
        clear hs
        go_enter Tryd.func50, Tryd.ntmps50
        go_wp2
        have hss := SS.init w #[.int .i64 e, .int .i64 h, .bool r] #[.int .i64 15, .int .i64 d1, .int .i64 d2, .int .i64 0] #[.int .i64 0, .int .i64 0, .bool false] rfl
        generalize World.alloc (World.alloc (World.alloc w _) _) _ = W at hss ⊢
        obtain ⟨_, c0, c1, c2, g0, g1, g2, g3, ⟨x0, r0⟩, ⟨x1, r1⟩, ⟨x2, r2⟩, rf⟩ := hss.all
        go_region
        go_wp2
        refine bodyPost_ret (v := .tuple #[.agg #[.int .i64 e, .int .i64 h, .bool r], .bool false]) (by rw [results_cell_tmp rfl]; simp [go_sem, Result.andThen, *]) rfl ?_
        first | exact ⟨rfl, (SS.drew (SS.setCell (SS.setCell (SS.setCell hss _ _) _ _) _ _)).u⟩ | exact ⟨rfl, (SS.setCell (SS.setCell (SS.setCell (SS.drew hss) _ _) _ _) _ _).u⟩
    · skip
      have a1a : decide (0 < d1) = false := decide_eq_false a1
      have a1b : d1 ≤ 0 := by omega
      have hs : Jd.stp ⟨e, h, r⟩ ⟨15, d1, d2, 0⟩ = (false, ⟨e, h, r⟩) := by first | (simp [Jd.stp, Jd.fine, Jd.grant, *]; done) | (subst_vars; simp_all [Jd.stp, Jd.fine, Jd.grant]; done) | (have hh : ¬ d1 ≤ 0 := (by omega); subst_vars; simp [Jd.stp, Jd.fine, Jd.grant, hh]; done) | (simp [Jd.stp, Jd.fine, *]; split <;> simp_all; done) | (simp [Jd.stp, Jd.fine, Jd.grant, *] <;> simp_all)
      rw [hs]
      clear hs
      go_enter Tryd.func50, Tryd.ntmps50
      go_wp2
      have hss := SS.init w #[.int .i64 e, .int .i64 h, .bool r] #[.int .i64 15, .int .i64 d1, .int .i64 d2, .int .i64 0] #[.int .i64 0, .int .i64 0, .bool false] rfl
      generalize World.alloc (World.alloc (World.alloc w _) _) _ = W at hss ⊢
      obtain ⟨_, c0, c1, c2, g0, g1, g2, g3, ⟨x0, r0⟩, ⟨x1, r1⟩, ⟨x2, r2⟩, rf⟩ := hss.all
      go_region
      go_wp2
      refine bodyPost_ret (v := .tuple #[.agg #[.int .i64 e, .int .i64 h, .bool r], .bool false]) (by rw [results_cell_tmp rfl]; simp [go_sem, Result.andThen, *]) rfl ?_
      first | exact ⟨rfl, (SS.drew (SS.setCell (SS.setCell (SS.setCell hss _ _) _ _) _ _)).u⟩ | exact ⟨rfl, (SS.setCell (SS.setCell (SS.setCell (SS.drew hss) _ _) _ _) _ _).u⟩
  · skip
    have p0a : (d3 == 0) = false := beq_eq_false_iff_ne.2 p0
    have p0b : (d3 != 0) = true := by simp [p0]
    have hs : Jd.stp ⟨e, h, r⟩ ⟨15, d1, d2, d3⟩ = (false, ⟨e, h, r⟩) := by first | (simp [Jd.stp, Jd.fine, Jd.grant, *]; done) | (subst_vars; simp_all [Jd.stp, Jd.fine, Jd.grant]; done) | (have hh : ¬ d1 ≤ 0 := (by omega); subst_vars; simp [Jd.stp, Jd.fine, Jd.grant, hh]; done) | (simp [Jd.stp, Jd.fine, *]; split <;> simp_all; done) | (simp [Jd.stp, Jd.fine, Jd.grant, *] <;> simp_all)
    rw [hs]
    clear hs
    go_enter Tryd.func50, Tryd.ntmps50
    go_wp2
    refine bodyPost_ret (v := .tuple #[.agg #[.int .i64 e, .int .i64 h, .bool r], .bool false]) (by rw [results_cell_tmp rfl]; simp [go_sem, Result.andThen]) rfl ?_
    refine ⟨rfl, ?_⟩
    repeat' (with_reducible first | exact Below.refl _ _ | refine Below.drew ?_ | refine Below.alloc ?_ (by simp <;> omega) _)

set_option maxRecDepth 100000 in
set_option maxHeartbeats 8000000 in
theorem step0 (e h : Int) (r : Bool) (d0 d1 d2 d3 : Int) (n5 : d0 ≠ 5) (n6 : d0 ≠ 6) (n7 : d0 ≠ 7) (n8 : d0 ≠ 8) (n10 : d0 ≠ 10) (n15 : d0 ≠ 15) (w : World) :
    Calls Tryd.prog 50 #[.agg (Jd.cells ⟨e, h, r⟩), .agg (Dec.cells ⟨d0, d1, d2, d3⟩)] w fun e' w' => e' = .returned (.tuple #[.agg (Jd.stp ⟨e, h, r⟩ ⟨d0, d1, d2, d3⟩).2.cells, .bool (Jd.stp ⟨e, h, r⟩ ⟨d0, d1, d2, d3⟩).1]) ∧ Below w.heap.size w w' := by
  simp only [Dec.cells, Jd.cells]
  have m5 : (d0 == 5) = false := beq_eq_false_iff_ne.2 n5
  have k5 : (d0 != 5) = true := by simp [n5]
  have m6 : (d0 == 6) = false := beq_eq_false_iff_ne.2 n6
  have k6 : (d0 != 6) = true := by simp [n6]
  have m7 : (d0 == 7) = false := beq_eq_false_iff_ne.2 n7
  have k7 : (d0 != 7) = true := by simp [n7]
  have m8 : (d0 == 8) = false := beq_eq_false_iff_ne.2 n8
  have k8 : (d0 != 8) = true := by simp [n8]
  have m10 : (d0 == 10) = false := beq_eq_false_iff_ne.2 n10
  have k10 : (d0 != 10) = true := by simp [n10]
  have m15 : (d0 == 15) = false := beq_eq_false_iff_ne.2 n15
  have k15 : (d0 != 15) = true := by simp [n15]
  by_cases p0 : d3 = 0
  · skip
    subst p0
    have hs : Jd.stp ⟨e, h, r⟩ ⟨d0, d1, d2, 0⟩ = (false, ⟨e, h, r⟩) := by first | (simp [Jd.stp, Jd.fine, Jd.grant, *]; done) | (subst_vars; simp_all [Jd.stp, Jd.fine, Jd.grant]; done) | (have hh : ¬ d1 ≤ 0 := (by omega); subst_vars; simp [Jd.stp, Jd.fine, Jd.grant, hh]; done) | (simp [Jd.stp, Jd.fine, *]; split <;> simp_all; done) | (simp [Jd.stp, Jd.fine, Jd.grant, *] <;> simp_all)
    rw [hs]
    clear hs
    go_enter Tryd.func50, Tryd.ntmps50
    go_wp2
    refine bodyPost_ret (v := .tuple #[.agg #[.int .i64 e, .int .i64 h, .bool r], .bool false]) (by rw [results_cell_tmp rfl]; simp [go_sem, Result.andThen]) rfl ?_
    refine ⟨rfl, ?_⟩
    repeat' (with_reducible first | exact Below.refl _ _ | refine Below.drew ?_ | refine Below.alloc ?_ (by simp <;> omega) _)
  · skip
    have p0a : (d3 == 0) = false := beq_eq_false_iff_ne.2 p0
    have p0b : (d3 != 0) = true := by simp [p0]
    have hs : Jd.stp ⟨e, h, r⟩ ⟨d0, d1, d2, d3⟩ = (false, ⟨e, h, r⟩) := by first | (simp [Jd.stp, Jd.fine, Jd.grant, *]; done) | (subst_vars; simp_all [Jd.stp, Jd.fine, Jd.grant]; done) | (have hh : ¬ d1 ≤ 0 := (by omega); subst_vars; simp [Jd.stp, Jd.fine, Jd.grant, hh]; done) | (simp [Jd.stp, Jd.fine, *]; split <;> simp_all; done) | (simp [Jd.stp, Jd.fine, Jd.grant, *] <;> simp_all)
    rw [hs]
    clear hs
    go_enter Tryd.func50, Tryd.ntmps50
    go_wp2
    refine bodyPost_ret (v := .tuple #[.agg #[.int .i64 e, .int .i64 h, .bool r], .bool false]) (by rw [results_cell_tmp rfl]; simp [go_sem, Result.andThen]) rfl ?_
    refine ⟨rfl, ?_⟩
    repeat' (with_reducible first | exact Below.refl _ _ | refine Below.drew ?_ | refine Below.alloc ?_ (by simp <;> omega) _)

theorem step_calls (j : Jd) (d : Dec) (w : World) : Calls Tryd.prog 50 #[.agg j.cells, .agg d.cells] w fun e' w' => e' = .returned (.tuple #[.agg (j.stp d).2.cells, .bool (j.stp d).1]) ∧ Below w.heap.size w w' := by
  obtain ⟨e, h, r⟩ := j
  obtain ⟨d0, d1, d2, d3⟩ := d
  by_cases k5 : d0 = 5
  · subst k5; exact step5 e h r d1 d2 d3 w
  by_cases k6 : d0 = 6
  · subst k6; exact step6 e h r d1 d2 d3 w
  by_cases k7 : d0 = 7
  · subst k7; exact step7 e h r d1 d2 d3 w
  by_cases k8 : d0 = 8
  · subst k8; exact step8 e h r d1 d2 d3 w
  by_cases k10 : d0 = 10
  · subst k10; exact step10 e h r d1 d2 d3 w
  by_cases k15 : d0 = 15
  · subst k15; exact step15 e h r d1 d2 d3 w
  exact step0 e h r d0 d1 d2 d3 k5 k6 k7 k8 k10 k15 w
end Go.Proofs.YtmokcebpgfhddaaDoor

/- squelchlaw23.TraceWords: the walk. -/
import Derived.Test.YtmokcebpgfhddaaDoorLive
import Derived.Test.YtmokcebpgfhddaaDoorRefWord
import Derived.Test.YtmokcebpgfhddaaDoorRefText
import Derived.Test.YtmokcebpgfhddaaDoorDigits
import Derived.Deep.RegionHeld3
namespace Go.Proofs.YtmokcebpgfhddaaDoor
open Go.RowKit

theorem digits_calls' (n : Int) (w : World) (h1 : -9223372036854775808 ≤ n) (h2 : n ≤ 9223372036854775807) :
    Calls Tryd.prog 15 #[.int .i64 n] w fun e w' => e = .returned (.string ⟨(Lib.itoa n).toArray⟩) ∧ Below w.heap.size w w' :=
  (digits_calls (n.natAbs + 1) n w (by omega) h1 h2).mono fun _ _ ⟨S, he, hS, hw⟩ => ⟨by rw [he, show S = _ from hS], hw ▸ Below.refl _ _⟩

/-- What stays through the region: the box, what lay ahead. -/
structure WS (w : World) (g : Nat) (cs : Array Value) (W : World) : Prop where
  b : Blk W g cs 23
  u : Below w.heap.size w W
theorem WS.below {w W W' : World} {g : Nat} {cs : Array Value} (h : WS w g cs W) (hb : Below W.heap.size W W') : WS w g cs W' :=
  ⟨(hb.block g h.b.lt).trans h.b, h.u.trans (hb.mono h.u.size)⟩
theorem WS.alloc {w W : World} {g : Nat} {cs : Array Value} (h : WS w g cs W) (o : Obj) : WS w g cs (W.alloc o) := h.below ((Below.refl _ W).alloc (Nat.le_refl _) o)
theorem WS.drew {w W : World} {g : Nat} {cs : Array Value} (h : WS w g cs W) : WS w g cs W.drew := ⟨h.b, ⟨h.u.os, h.u.tape, h.u.output, h.u.size, h.u.block⟩⟩

theorem WS.all {w W : World} {g : Nat} {a b c d : Value} (h : WS w g #[a, b, c, d] W) : WS w g #[a, b, c, d] W ∧ W.cell? ⟨g, 0, none⟩ = some a ∧ W.cell? ⟨g, 1, none⟩ = some b ∧ W.cell? ⟨g, 2, none⟩ = some c ∧ W.cell? ⟨g, 3, none⟩ = some d :=
  ⟨h, h.b.cell 0, h.b.cell 1, h.b.cell 2, h.b.cell 3⟩

set_option maxRecDepth 100000 in
set_option maxHeartbeats 16000000 in
theorem words_walk (w : World) (d : Dec) (s : ByteArray) (n : Int) (ht : TabOk w) (h1 : -9223372036854775808 ≤ n) (h2 : n ≤ 9223372036854775807) :
    Calls Tryd.prog 3 #[.agg d.cells, .string s, .int .i64 n] w fun e w' => e = .returned (.bool true) ∧ Below w.heap.size w w' := by
  have HT := Lib.hid ht; clear ht
  obtain ⟨d0, d1, d2, d3⟩ := d
  simp only [Dec.cells]
  by_cases hs : (2000 : Int) < (s.size : Int)
  · go_enter Tryd.func3, Tryd.ntmps3
    go_wp2_with fail
    refine (live_calls _ (HT.out.below ((Below.refl _ w).alloc (Nat.le_refl _) _))).mono ?_
    rintro e w1 ⟨rfl, hb1⟩
    have HB1 := Lib.hid (((Below.refl _ w).alloc (Nat.le_refl _) _).trans (hb1.mono (by simp))); clear hb1
    go_wp2
    go_ret
    go_light
    exact ⟨by simp, HB1.out⟩
  · have hs2 : s.size ≤ 35184372088832 := by omega
    go_enter Tryd.func3, Tryd.ntmps3
    go_wp2_with fail
    refine (live_calls _ (HT.out.below ((Below.refl _ w).alloc (Nat.le_refl _) _))).mono ?_
    rintro e w1 ⟨rfl, hb1⟩
    have HB1 := Lib.hid (((Below.refl _ w).alloc (Nat.le_refl _) _).trans (hb1.mono (by simp)))
    obtain ⟨g, hg⟩ : ∃ g, w.heap.size = g := ⟨_, rfl⟩
    have hbl : Blk w1 g #[.int .i64 d0, .int .i64 d1, .int .i64 d2, .int .i64 d3] 23 := by
      subst hg
      exact (hb1.block w.heap.size (by simp)).trans (Blk.new _ _ _)
    have hws : WS w g #[.int .i64 d0, .int .i64 d1, .int .i64 d2, .int .i64 d3] w1 := ⟨hbl, HB1.out⟩
    have c0 : w1.cell? ⟨g, 0, none⟩ = some (.int .i64 d0) := hbl.cell 0
    have c1 : w1.cell? ⟨g, 1, none⟩ = some (.int .i64 d1) := hbl.cell 1
    have c2 : w1.cell? ⟨g, 2, none⟩ = some (.int .i64 d2) := hbl.cell 2
    have c3 : w1.cell? ⟨g, 3, none⟩ = some (.int .i64 d3) := hbl.cell 3
    clear hb1 hbl HB1
    go_wp2
    clear hg hs
    go_region_held3 (fun w' => WS w g #[.int .i64 d0, .int .i64 d1, .int .i64 d2, .int .i64 d3] w' ∧ w'.cell? ⟨g, 0, none⟩ = some (.int .i64 d0) ∧ w'.cell? ⟨g, 1, none⟩ = some (.int .i64 d1) ∧ w'.cell? ⟨g, 2, none⟩ = some (.int .i64 d2) ∧ w'.cell? ⟨g, 3, none⟩ = some (.int .i64 d3))
      ((try go_split_ands
        refine WS.all ?_
        first | assumption | exact WS.below (by assumption) (by assumption) | exact WS.drew (by assumption) | exact WS.drew (WS.alloc (by assumption) _) | exact WS.alloc (by assumption) _))
      (first
        | (go_at_call 13; refine (refWord_calls ⟨d0, d1, d2, d3⟩ _).mono ?_; rintro e w' ⟨rfl, hb⟩; (try go_split_ands); have hU := WS.below (w := w) (g := g) (cs := #[.int .i64 d0, .int .i64 d1, .int .i64 d2, .int .i64 d3]) (by assumption) hb)
        | (go_at_call 14; refine (refText_calls _ _ hs2).mono ?_; rintro e w' ⟨rfl, hb⟩; (try go_split_ands); have hU := WS.below (w := w) (g := g) (cs := #[.int .i64 d0, .int .i64 d1, .int .i64 d2, .int .i64 d3]) (by assumption) hb)
        | (go_at_call 15; refine (digits_calls' _ _ h1 h2).mono ?_; rintro e w' ⟨rfl, hb⟩; (try go_split_ands); have hU := WS.below (w := w) (g := g) (cs := #[.int .i64 d0, .int .i64 d1, .int .i64 d2, .int .i64 d3]) (by assumption) hb)
        | (go_at_call 12; first
            | (with_reducible refine (tell_dec _ _ _ _ _).mono ?_; rintro e w' ⟨rfl, hb⟩; (try go_split_ands); have hU := WS.below (w := w) (g := g) (cs := #[.int .i64 d0, .int .i64 d1, .int .i64 d2, .int .i64 d3]) (by assumption) hb)
            | (with_reducible refine (tell_str _ _ hs2).mono ?_; rintro e w' ⟨rfl, hb⟩; (try go_split_ands); have hU := WS.below (w := w) (g := g) (cs := #[.int .i64 d0, .int .i64 d1, .int .i64 d2, .int .i64 d3]) (by assumption) hb)
            | (with_reducible refine (tell_ptr _ _).mono ?_; rintro e w' ⟨rfl, hb⟩; (try go_split_ands); have hU := WS.below (w := w) (g := g) (cs := #[.int .i64 d0, .int .i64 d1, .int .i64 d2, .int .i64 d3]) (by assumption) hb)
            | (with_reducible refine (tell_i64 _ _).mono ?_; rintro e w' ⟨rfl, hb⟩; (try go_split_ands); have hU := WS.below (w := w) (g := g) (cs := #[.int .i64 d0, .int .i64 d1, .int .i64 d2, .int .i64 d3]) (by assumption) hb)
            | (with_reducible refine (tell_sl _ _).mono ?_; rintro e w' ⟨rfl, hb⟩; (try go_split_ands); have hU := WS.below (w := w) (g := g) (cs := #[.int .i64 d0, .int .i64 d1, .int .i64 d2, .int .i64 d3]) (by assumption) hb)
            | (with_reducible refine (tell_int _ _ h1 h2 ?ht).mono ?_; (case ht => (try go_split_ands); exact HT.out.below (WS.u (by assumption))); rintro e w' ⟨rfl, hb⟩; (try go_split_ands); have hU := WS.below (w := w) (g := g) (cs := #[.int .i64 d0, .int .i64 d1, .int .i64 d2, .int .i64 d3]) (by assumption) hb)))
    all_goals (go_wp2; go_ret; go_light; exact ⟨by simp, hU.u⟩)
end Go.Proofs.YtmokcebpgfhddaaDoor

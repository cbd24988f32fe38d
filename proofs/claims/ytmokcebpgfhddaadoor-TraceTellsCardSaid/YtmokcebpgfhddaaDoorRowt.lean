/- A slice of decisions that came in, whose kinds are ints. -/
import Derived.Test.YtmokcebpgfhddaaDoorRowk
namespace Go.Proofs.YtmokcebpgfhddaaDoor
open Go.ChangeShapes Go.WideShapes Go.ChangeAt Go.RowKit
set_option maxRecDepth 100000 in
/-- A slice of decisions that came in. -/
theorem decs_open_wf {H : Type} {enc : TypeId × Value → H} {W : World} {A : Option Addr} {n c : Nat} {d : DataW H} {p : List MemPlace}
    (h : DataW.Trod enc Tryd.prog W 0 (fun _ => true) true 32 (.slice A n c) d p) :
    ∃ l : List Dec, l.length = n ∧ n ≤ c ∧ c ≤ 9223372036854775807 ∧ (A = none → c = 0) ∧ decC.R (fun b => b < W.heap.size) W A l ∧ ∀ d ∈ l, (Lit.int .i64 d.kind).wf = true := by
  obtain ⟨fuel, hf⟩ := h
  rcases Deep.open_slice Tryd.underlying32 hf with ⟨hcs, _⟩ | ⟨a, len, cap, m, q, D, Pl, hcs, _, hl, hm, hmm, _, hx⟩
  · simp [Value.cells] at hcs
    obtain ⟨rfl, rfl, rfl⟩ := hcs
    exact ⟨[], rfl, Nat.le_refl _, by omega, fun _ => rfl, fun i hi => absurd hi (by simp), fun d hd => by simp at hd⟩
  · simp [Value.cells] at hcs
    obtain ⟨rfl, rfl, rfl⟩ := hcs
    have hmc : m = c := by simpa using hmm
    have h4 : Tryd.prog.cellsOf 23 = 4 := by kernel_rfl
    have one : ∀ i, i < n → ∃ d : Dec, (∀ j, j < 4 → W.cell? ((a.add (i * 4)).add j) = d.cells[j]?) ∧ (Lit.int .i64 d.kind).wf = true := fun i hi => by
      obtain ⟨cs', h1, h2⟩ := hx i (by omega)
      rw [h4] at h1
      obtain ⟨_, hlen, hcell⟩ := World.cells?_some h1
      obtain ⟨xs, k, _, _, _, hxl, hall⟩ := DataW.trod_struct Tryd.underlying23 h2
      have e8 : Tryd.prog.cellsOf 3 = 1 := by kernel_rfl
      match cs', hlen with
      | [c0, c1, c2, c3], _ =>
        have get : ∀ (j : Nat) (f : Field), (#[{ name := "Kind", type := 3, offset := 0, embedded := false, tag := "", pkgPath := "", byteOffset := 0 }, { name := "Who", type := 3, offset := 1, embedded := false, tag := "", pkgPath := "", byteOffset := 8 }, { name := "Epoch", type := 3, offset := 2, embedded := false, tag := "", pkgPath := "", byteOffset := 16 }, { name := "Pos", type := 3, offset := 3, embedded := false, tag := "", pkgPath := "", byteOffset := 24 }] : Array Field)[j]? = some f → f.type = 3 → f.offset = j → j < 4 → ∃ z, ([c0, c1, c2, c3].drop j).take 1 = [.int .i64 z] ∧ (Lit.int .i64 z).wf = true := fun j f hj ht ho hlt => by
          have := hall j f hj
          rw [ht, ho, e8] at this
          obtain ⟨b, hb⟩ : ∃ b, xs[j]? = some b := ⟨xs[j]'(by have : xs.length = 4 := hxl; omega), List.getElem?_eq_getElem _⟩
          rw [hb] at this
          obtain ⟨z, hz, _, hzw⟩ := DataW.trod_int Tryd.underlying3 this
          exact ⟨z, hz, hzw⟩
        obtain ⟨z0, g0, y0⟩ := get 0 _ rfl rfl rfl (by decide)
        obtain ⟨z1, g1, _⟩ := get 1 _ rfl rfl rfl (by decide)
        obtain ⟨z2, g2, _⟩ := get 2 _ rfl rfl rfl (by decide)
        obtain ⟨z3, g3, _⟩ := get 3 _ rfl rfl rfl (by decide)
        simp at g0 g1 g2 g3
        subst g0 g1 g2 g3
        exact ⟨⟨z0, z1, z2, z3⟩, (fun j hj => by
          rw [hcell j hj]
          match j, hj with
          | 0, _ => rfl
          | 1, _ => rfl
          | 2, _ => rfl
          | 3, _ => rfl), y0⟩
    have : Inhabited Dec := ⟨⟨0, 0, 0, 0⟩⟩
    obtain ⟨f, hf⟩ := Deep.choose_lt one
    refine ⟨(List.range n).map f, by simp, hl, hm, fun h => (by cases h), fun i hi => ?_, fun d hd => by
      obtain ⟨i, hi, rfl⟩ := List.mem_map.1 hd
      exact (hf i (List.mem_range.1 hi)).2⟩
    have hin : i < n := by simpa using hi
    have hsp : a.spot = none := by
      have g0 := (hf 0 (by omega)).1 0 (by decide)
      exact World.cell?_spot (v := .int .i64 (f 0).kind) (by simpa [Addr.add, Dec.cells] using g0)
    obtain ⟨b, o, sp⟩ := a
    obtain rfl : sp = none := hsp
    have hlt : b < W.heap.size := World.block_lt_of_cell? (a := ⟨b, o, none⟩) (u := .int .i64 (f 0).kind) (h := by have g0 := (hf 0 (by omega)).1 0 (by decide); simpa [Addr.add, Dec.cells] using g0)
    refine ⟨b, o, (f i).cells, rfl, hlt, hlt, by simp; rfl, fun j hj => ?_⟩
    have := (hf i hin).1 j hj
    rw [Deep.add_add] at this
    have e : (Addr.add ⟨b, o, none⟩ (i * 4 + j)) = ⟨b, o + i * 4 + j, none⟩ := by
      unfold Addr.add
      split
      · rename_i h; rw [show o + i * 4 + j = o by omega]
      · rw [Nat.add_assoc]
    rw [e] at this
    exact this

end Go.Proofs.YtmokcebpgfhddaaDoor

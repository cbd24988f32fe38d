/- A decision that came in by value. -/
import Derived.Test.YtmokcebpgfhddaaDoorRowk
namespace Go.Proofs.YtmokcebpgfhddaaDoor
open Go.ChangeShapes Go.WideShapes Go.ChangeAt Go.RowKit

set_option maxRecDepth 100000 in
theorem dec_open {H : Type} {enc : TypeId × Value → H} {W : World} {r : Reach} {base : Nat} {v : Value} {d : DataW H} {p : List MemPlace}
    (hval : Value.okWide Tryd.prog W r base 23 v) (h : DataW.Trod enc Tryd.prog W 0 (fun _ => true) true 23 v d p) : ∃ e : Dec, v = .agg e.cells := by
  obtain ⟨cs, rfl, hsz⟩ := okWide_struct Tryd.underlying23 hval
  obtain ⟨fuel, hf⟩ := h
  obtain ⟨xs, k, _, _, hlen, hxl, hall⟩ := DataW.trod_struct Tryd.underlying23 hf
  have e8 : Tryd.prog.cellsOf 3 = 1 := by kernel_rfl
  have h4 : Tryd.prog.cellsOf 23 = 4 := by kernel_rfl
  rw [h4] at hsz
  obtain ⟨l⟩ := cs
  match l, hsz with
  | [c0, c1, c2, c3], _ =>
    have get : ∀ (j : Nat) (f : Field), (#[{ name := "Kind", type := 3, offset := 0, embedded := false, tag := "", pkgPath := "", byteOffset := 0 }, { name := "Who", type := 3, offset := 1, embedded := false, tag := "", pkgPath := "", byteOffset := 8 }, { name := "Epoch", type := 3, offset := 2, embedded := false, tag := "", pkgPath := "", byteOffset := 16 }, { name := "Pos", type := 3, offset := 3, embedded := false, tag := "", pkgPath := "", byteOffset := 24 }] : Array Field)[j]? = some f → f.type = 3 → f.offset = j → j < 4 → ∃ z, ([c0, c1, c2, c3].drop j).take 1 = [.int .i64 z] := fun j f hj ht ho hlt => by
      have := hall j f hj
      rw [ht, ho, e8] at this
      obtain ⟨b, hb⟩ : ∃ b, xs[j]? = some b := ⟨xs[j]'(by have : xs.length = 4 := hxl; omega), List.getElem?_eq_getElem _⟩
      rw [hb] at this
      obtain ⟨z, hz, _⟩ := DataW.trod_int Tryd.underlying3 this
      exact ⟨z, hz⟩
    obtain ⟨z0, g0⟩ := get 0 _ rfl rfl rfl (by decide)
    obtain ⟨z1, g1⟩ := get 1 _ rfl rfl rfl (by decide)
    obtain ⟨z2, g2⟩ := get 2 _ rfl rfl rfl (by decide)
    obtain ⟨z3, g3⟩ := get 3 _ rfl rfl rfl (by decide)
    simp at g0 g1 g2 g3
    subst g0 g1 g2 g3
    exact ⟨⟨z0, z1, z2, z3⟩, rfl⟩
end Go.Proofs.YtmokcebpgfhddaaDoor

/- Words for this seat's rows: the listed tables, a slice of decisions opened, the witness. -/
import Derived.Test.YtmokcebpgfhddaaDoorAppend
import Derived.Test.YtmokcebpgfhddaaDoorTellC
import Derived.Test.YtmokcebpgfhddaaDoorRows
import Derived.Test.YtmokcebpgfhddaaDoorTie
import Derived.Lib.LaidU8
import Derived.WalkKit
import Derived.ProofKit
import Derived.OpenShut
import Derived.ShutString
import Derived.ChangeOld
import Derived.Below
import Derived.SizedLaws
import Derived.Lay
import Derived.LaidOnce
import Derived.SevenTiedAt
import Derived.Deep.Slices
namespace Go.Proofs.YtmokcebpgfhddaaDoor
open Go.ChangeShapes Go.WideShapes Go.ChangeAt Go.RowKit

theorem own : ownKnob Tryd.prog.godebug = none := by kernel_rfl
theorem laidOut : laidOutB Tryd.prog = true := by kernel_rfl

/-- The three tables that the rows over the trace list. -/
def laid3 : List (String × DataW Unit) := [("math/bits.deBruijn32tab", Rows.laid_math_bits_deBruijn32tab), ("math/bits.deBruijn64tab", Rows.laid_math_bits_deBruijn64tab), ("internal/strconv.uint64pow10", Rows.laid_internal_strconv_uint64pow10)]

set_option maxRecDepth 100000 in
theorem tabOk_of_laid {W : World} (h : laidMetH Tryd.prog laid3 W) : TabOk W := by
  rw [MakeChecks.laidMetH_plain _ _ _ (by kernel_rfl)] at h
  obtain ⟨g, t, cs, fuel, p, h1, h2, h3, h4⟩ := Lib.laidMet.reads h (n := "internal/strconv.uint64pow10") (d := Rows.laid_internal_strconv_uint64pow10) (List.mem_of_getElem? (i := 2) rfl)
  have hg : ((Tryd.prog.globalNamed "internal/strconv.uint64pow10").bind (Tryd.prog.globals[·]?)).map (·.type) = some 203 := by kernel_rfl
  rw [h1] at hg
  have hg2 : (Tryd.prog.globals[g]?).map (·.type) = some 203 := hg
  obtain rfl := Option.some.inj (hg2.symm.trans h2)
  unfold TabOk Lib.TabIs
  rw [h3]
  have := Lib.cells_of_tab (k := .u64) (zs := Lib.pow10Tab) (t := 203) Tryd.underlying203 Tryd.underlying188 (by kernel_rfl) (by kernel_rfl) (cs := cs.toList) h4
  rw [← this]

set_option maxRecDepth 100000 in
/-- A slice of decisions that came in. -/
theorem decs_open {H : Type} {enc : TypeId × Value → H} {W : World} {A : Option Addr} {n c : Nat} {d : DataW H} {p : List MemPlace}
    (h : DataW.Trod enc Tryd.prog W 0 (fun _ => true) true 32 (.slice A n c) d p) :
    ∃ l : List Dec, l.length = n ∧ n ≤ c ∧ c ≤ 9223372036854775807 ∧ (A = none → c = 0) ∧ decC.R (fun b => b < W.heap.size) W A l := by
  obtain ⟨fuel, hf⟩ := h
  rcases Deep.open_slice Tryd.underlying32 hf with ⟨hcs, _⟩ | ⟨a, len, cap, m, q, D, Pl, hcs, _, hl, hm, hmm, _, hx⟩
  · simp [Value.cells] at hcs
    obtain ⟨rfl, rfl, rfl⟩ := hcs
    exact ⟨[], rfl, Nat.le_refl _, by omega, fun _ => rfl, fun i hi => absurd hi (by simp)⟩
  · simp [Value.cells] at hcs
    obtain ⟨rfl, rfl, rfl⟩ := hcs
    have hmc : m = c := by simpa using hmm
    have h4 : Tryd.prog.cellsOf 23 = 4 := by kernel_rfl
    have one : ∀ i, i < n → ∃ d : Dec, ∀ j, j < 4 → W.cell? ((a.add (i * 4)).add j) = d.cells[j]? := fun i hi => by
      obtain ⟨cs', h1, h2⟩ := hx i (by omega)
      rw [h4] at h1
      obtain ⟨_, hlen, hcell⟩ := World.cells?_some h1
      obtain ⟨xs, k, _, _, _, hxl, hall⟩ := DataW.trod_struct Tryd.underlying23 h2
      have e8 : Tryd.prog.cellsOf 3 = 1 := by kernel_rfl
      match cs', hlen with
      | [c0, c1, c2, c3], _ =>
        have get : ∀ (j : Nat) (f : Field), (#[{ name := "Kind", type := 3, offset := 0, embedded := false, tag := "", pkgPath := "", byteOffset := 0 }, { name := "Who", type := 3, offset := 1, embedded := false, tag := "", pkgPath := "", byteOffset := 8 }, { name := "Epoch", type := 3, offset := 2, embedded := false, tag := "", pkgPath := "", byteOffset := 16 }, { name := "Pos", type := 3, offset := 3, embedded := false, tag := "", pkgPath := "", byteOffset := 24 }] : Array Field)[j]? = some f → f.type = 3 → f.offset = j → j < 4 → ∃ z, ([c0, c1, c2, c3].drop j).take 1 = [.int .i64 z] := fun j f hj ht ho hlt => by
          have := hall j f hj
          rw [ht, ho, e8] at this
          obtain ⟨b, hb⟩ : ∃ b, xs[j]? = some b := ⟨xs[j]'(by have : xs.length = 4 := hxl; omega), List.getElem?_eq_getElem _⟩
          rw [hb] at this
          obtain ⟨z, hz, _⟩ := DataW.trod_int Tryd.underlying3 this
          exact ⟨z, hz⟩
        obtain ⟨z0, g0⟩ := get 0 _ rfl rfl rfl (by decide)
        obtain ⟨z1, g1⟩ := get 1 _ rfl rfl rfl (by decide)
        obtain ⟨z2, g2⟩ := get 2 _ rfl rfl rfl (by decide)
        obtain ⟨z3, g3⟩ := get 3 _ rfl rfl rfl (by decide)
        simp at g0 g1 g2 g3
        subst g0 g1 g2 g3
        exact ⟨⟨z0, z1, z2, z3⟩, fun j hj => by
          rw [hcell j hj]
          match j, hj with
          | 0, _ => rfl
          | 1, _ => rfl
          | 2, _ => rfl
          | 3, _ => rfl⟩
    have : Inhabited Dec := ⟨⟨0, 0, 0, 0⟩⟩
    obtain ⟨f, hf⟩ := Deep.choose_lt one
    refine ⟨(List.range n).map f, by simp, hl, hm, fun h => (by cases h), fun i hi => ?_⟩
    have hin : i < n := by simpa using hi
    have hsp : a.spot = none := by
      have g0 := hf 0 (by omega) 0 (by decide)
      exact World.cell?_spot (v := .int .i64 (f 0).kind) (by simpa [Addr.add, Dec.cells] using g0)
    obtain ⟨b, o, sp⟩ := a
    obtain rfl : sp = none := hsp
    have hlt : b < W.heap.size := World.block_lt_of_cell? (a := ⟨b, o, none⟩) (u := .int .i64 (f 0).kind) (h := by have g0 := hf 0 (by omega) 0 (by decide); simpa [Addr.add, Dec.cells] using g0)
    refine ⟨b, o, (f i).cells, rfl, hlt, hlt, by simp; rfl, fun j hj => ?_⟩
    have := hf i hin j hj
    rw [Deep.add_add] at this
    have e : (Addr.add ⟨b, o, none⟩ (i * 4 + j)) = ⟨b, o + i * 4 + j, none⟩ := by
      unfold Addr.add
      split
      · rename_i h; rw [show o + i * 4 + j = o by omega]
      · rw [Nat.add_assoc]
    rw [e] at this
    exact this

/-- A slice that came in is no longer than the reach lets it be. -/
theorem slice_sized {H : Type} {enc : TypeId × Value → H} {W : World} {t e : TypeId} {A : Option Addr} {n c : Nat} {d : DataW H} {p : List MemPlace} {ts : List TypeId} {ds : List (DataW H)} {j : Nat}
    (hsz : (DataW.weightsEach Tryd.prog ts ds).all (· ≤ reachBytes) = true) (ht : ts[j]? = some t) (hd : ds[j]? = some d) (hu : Tryd.prog.underlying t = some (.slice e)) (hb : 0 < Tryd.prog.bytesOf e)
    (h : DataW.Trod enc Tryd.prog W 0 (fun _ => true) true t (.slice A n c) d p) : n ≤ 140737488351232 := by
  obtain ⟨fuel, hf⟩ := h
  rcases Deep.open_slice hu hf with ⟨hcs, _⟩ | ⟨a, len, cap, m, q, D, Pl, hcs, _, hl, hm, hmm, hx, _⟩
  · simp [Value.cells] at hcs
    obtain ⟨rfl, rfl, rfl⟩ := hcs
    omega
  · simp [Value.cells] at hcs
    obtain ⟨rfl, rfl, rfl⟩ := hcs
    obtain ⟨hx, _⟩ := Prod.mk.inj hx
    subst hx
    have z := sized_slice hsz ht hd hu
    have h2 : n ≤ (((List.range n).map D).length + ((List.range (m - n)).map fun j => D (n + j)).length) * Tryd.prog.bytesOf e := by
      rw [List.length_map, List.length_range]
      exact Nat.le_trans (Nat.le_add_right _ _) (Nat.le_mul_of_pos_right _ hb)
    have h3 : reachBytes = 140737488351232 := rfl
    omega
end Go.Proofs.YtmokcebpgfhddaaDoor

/- Words for the walks of this seat: what a call may have turned (Upd), a judge's block (IsJ). -/
import Derived.Test.YtmokcebpgfhddaaDoorProg
import Derived.WalkKit
import Derived.Deep.QuietTactic
import Derived.BigQuiet
import Derived.KernelRfl
import Derived.Lib.Hide
import Derived.Deep.Light
import Derived.WalkLawsBesides
import Derived.WalkSpells
namespace Go.Proofs.YtmokcebpgfhddaaDoor
open Go.RowKit

/-- Of w's blocks none has turned but those of S; the streams are as they were. -/
structure Upd (S : Nat → Prop) (w w' : World) : Prop where
  os : w'.os = w.os
  tape : w'.tape = w.tape
  output : w'.output = w.output
  size : w.heap.size ≤ w'.heap.size
  block : ∀ k, k < w.heap.size → ¬ S k → w'.heap[k]? = w.heap[k]?

theorem Upd.refl (S : Nat → Prop) (w : World) : Upd S w w := ⟨rfl, rfl, rfl, Nat.le_refl _, fun _ _ _ => rfl⟩
theorem Upd.trans {S : Nat → Prop} {a b c : World} (h : Upd S a b) (k : Upd (fun i => S i ∨ a.heap.size ≤ i) b c) : Upd S a c :=
  ⟨k.os.trans h.os, k.tape.trans h.tape, k.output.trans h.output, Nat.le_trans h.size k.size,
    fun i hi hs => (k.block i (Nat.lt_of_lt_of_le hi h.size) (by intro x; rcases x with x | x; exact hs x; omega)).trans (h.block i hi hs)⟩
theorem Upd.mono {S T : Nat → Prop} {a b : World} (h : Upd S a b) (hs : ∀ k, k < a.heap.size → S k → T k) : Upd T a b :=
  ⟨h.os, h.tape, h.output, h.size, fun i hi ht => h.block i hi (fun x => ht (hs i hi x))⟩
theorem Upd.drew {S : Nat → Prop} {a b : World} (h : Upd S a b) : Upd S a b.drew := ⟨h.os, h.tape, h.output, h.size, h.block⟩
theorem Upd.drewN {S : Nat → Prop} {a b : World} (h : Upd S a b) (n : Nat) : Upd S a (b.drewN n) := ⟨h.os, h.tape, h.output, h.size, h.block⟩
theorem heap_alloc_lt (w : World) (o : Obj) (k : Nat) (h : k < w.heap.size) : (w.alloc o).heap[k]? = w.heap[k]? := Below.heap_alloc w o k h
theorem heap_alloc_at (w : World) (o : Obj) : (w.alloc o).heap[w.heap.size]? = some o := by
  show (w.heap.push o)[w.heap.size]? = _
  rw [Array.getElem?_push, if_pos rfl]
theorem Upd.alloc {S : Nat → Prop} {a b : World} (h : Upd S a b) (o : Obj) : Upd S a (b.alloc o) :=
  ⟨h.os, h.tape, h.output, by have := h.size; simp; omega, fun i hi hs => by rw [heap_alloc_lt _ _ _ (Nat.lt_of_lt_of_le hi h.size)]; exact h.block i hi hs⟩
theorem Upd.setCell {S : Nat → Prop} {a b : World} (h : Upd S a b) (p : Addr) (u : Value) (hp : S p.block ∨ a.heap.size ≤ p.block) : Upd S a (b.setCell p u) :=
  ⟨h.os, h.tape, h.output, by have := h.size; simp; omega, fun i hi hs => by
    rw [Below.heap_setCell _ _ _ _ (by intro e; subst e; rcases hp with hp | hp; exact hs hp; omega)]; exact h.block i hi hs⟩
theorem Upd.below {a b : World} (h : Upd (fun _ => False) a b) : Below a.heap.size a b := ⟨h.os, h.tape, h.output, h.size, fun k hk => h.block k hk (fun x => x)⟩
theorem Upd.of_below {S : Nat → Prop} {a b : World} (h : Below a.heap.size a b) : Upd S a b := ⟨h.os, h.tape, h.output, h.size, fun k hk _ => h.block k hk⟩
theorem Upd.cell {S : Nat → Prop} {w w' : World} (h : Upd S w w') {p : Addr} (hp : p.block < w.heap.size) (hs : ¬ S p.block) : w'.cell? p = w.cell? p := World.cell?_of_block (w := w) (h.block p.block hp hs)
theorem Upd.frozen {S : Nat → Prop} {w w' : World} (h : Upd S w w') {p : Addr} (hp : p.block < w.heap.size) (hs : ¬ S p.block) : w'.frozen? p = w.frozen? p := World.frozen?_of_block (w := w) (h.block p.block hp hs)

/-- A block of cells, none frozen. -/
def Blk (w : World) (g : Nat) (cs : Array Value) (t : TypeId) : Prop := w.heap[g]? = some (.cells cs t (0, 0))
theorem Blk.lt {w : World} {g : Nat} {cs : Array Value} {t : TypeId} (h : Blk w g cs t) : g < w.heap.size := (Array.getElem?_eq_some_iff.1 h).1
theorem Blk.cell {w : World} {g : Nat} {cs : Array Value} {t : TypeId} (h : Blk w g cs t) (i : Nat) : w.cell? ⟨g, i, none⟩ = cs[i]? := by
  unfold World.cell?
  rw [show w.heap[g]? = some (.cells cs t (0, 0)) from h]
  rfl
theorem Blk.frozen {w : World} {g : Nat} {cs : Array Value} {t : TypeId} (h : Blk w g cs t) (i : Nat) : w.frozen? ⟨g, i, none⟩ = false := by
  unfold World.frozen?
  rw [show w.heap[g]? = some (.cells cs t (0, 0)) from h]
  simp
theorem Blk.alloc {w : World} {g : Nat} {cs : Array Value} {t : TypeId} (h : Blk w g cs t) (o : Obj) : Blk (w.alloc o) g cs t := (heap_alloc_lt w o g h.lt).trans h
theorem Blk.drew {w : World} {g : Nat} {cs : Array Value} {t : TypeId} (h : Blk w g cs t) : Blk w.drew g cs t := h
theorem Blk.drewN {w : World} {g : Nat} {cs : Array Value} {t : TypeId} (h : Blk w g cs t) (n : Nat) : Blk (w.drewN n) g cs t := h
theorem Blk.new (w : World) (cs : Array Value) (t : TypeId) : Blk (w.alloc (.cells cs t)) w.heap.size cs t := heap_alloc_at w _
theorem Blk.far {w : World} {g : Nat} {cs : Array Value} {t : TypeId} (h : Blk w g cs t) (p : Addr) (u : Value) (hp : g ≠ p.block) : Blk (w.setCell p u) g cs t := (Below.heap_setCell _ _ _ _ hp).trans h
theorem Blk.set {w : World} {g : Nat} {cs : Array Value} {t : TypeId} (h : Blk w g cs t) (i : Nat) (u : Value) : Blk (w.setCell ⟨g, i, none⟩ u) g (cs.setIfInBounds i u) t := by
  unfold Blk World.setCell
  rw [Array.getElem?_modify, if_pos rfl, show w.heap[g]? = some (.cells cs t (0, 0)) from h]
  rfl
theorem Blk.upd {S : Nat → Prop} {w w' : World} {g : Nat} {cs : Array Value} {t : TypeId} (h : Blk w g cs t) (hu : Upd S w w') (hs : ¬ S g) : Blk w' g cs t := (hu.block g h.lt hs).trans h

/-- A decision's numbers. -/
structure Dec where
  kind : Int
  who : Int
  epoch : Int
  pos : Int
  deriving DecidableEq
def Dec.cells (d : Dec) : Array Value := #[.int .i64 d.kind, .int .i64 d.who, .int .i64 d.epoch, .int .i64 d.pos]
/-- How far a trace is judged. -/
structure Jd where
  e : Int
  h : Int
  r : Bool
  deriving DecidableEq
def Jd.cells (j : Jd) : Array Value := #[.int .i64 j.e, .int .i64 j.h, .bool j.r]
@[reducible] def IsJ (w : World) (g : Nat) (j : Jd) : Prop := Blk w g j.cells 94
def Jd.grant (j : Jd) (d : Dec) : Bool × Jd :=
  if d.who ≤ 0 then (false, j) else if d.epoch = wrap64 (j.e + 1) then (true, ⟨d.epoch, d.who, false⟩) else (d.epoch == j.e && (d.who == j.h && !j.r), j)
def Jd.fine (j : Jd) (d : Dec) : Bool × Jd :=
  if (d.kind == 5 && (d.pos == 0)) = true then j.grant d
  else if (d.kind == 8 && (d.who == j.h && (d.epoch == j.e && (d.pos == 0)))) = true then (decide (0 < j.h), ⟨j.e, j.h, j.r || decide (0 < j.h)⟩)
  else if (d.kind == 10 && (d.who == 0 && (d.epoch == j.e && (d.pos == 0)))) = true then (decide (0 < j.h), ⟨j.e, 0, false⟩)
  else if (d.kind == 7 && (d.epoch == 0)) = true then (decide (0 < j.h) && (decide (0 < d.who) && (d.who != j.h && (decide (1 ≤ d.pos) && decide (d.pos ≤ 4)))), j)
  else if (d.kind == 6 && (d.epoch == 0 && (d.pos == 0))) = true then (decide (0 < d.who), j)
  else if (d.kind == 15 && (d.epoch == j.e && (d.pos == 0))) = true then (decide (0 < d.who), j)
  else (false, j)
end Go.Proofs.YtmokcebpgfhddaaDoor

/- trace.Parts and trace.Holders: how a trace is cut. -/
import Derived.Test.YtmokcebpgfhddaaDoorJudge
namespace Go.Proofs.YtmokcebpgfhddaaDoor
open Go.RowKit

theorem info23 : (Tryd.prog.info? 23).map (fun i => (i.zero, i.size, i.bytes)) = some (some (.agg #[.int .i64 0, .int .i64 0, .int .i64 0, .int .i64 0]), 4, 32) := by kernel_rfl
theorem info32 : (Tryd.prog.info? 32).map (fun i => (i.zero, i.size, i.bytes)) = some (some (.slice none 0 0), 1, 24) := by kernel_rfl

def partsJ : Jd → List Dec → List (List Dec) → List Dec → List (List Dec)
  | _, part, out, [] => out ++ [part]
  | j, part, out, d :: l =>
    if (j.fine d).1 = true then
      if j.e < (j.fine d).2.e then partsJ (j.fine d).2 [d] (out ++ [part]) l
      else partsJ (j.fine d).2 (part ++ [d]) out l
    else out ++ [part]

/-- What holds of the rows under way. -/
structure PInv (N : Nat) (w : World) (j : Jd) (vp vo : Value) (part : List Dec) (out : List (List Dec)) (F : Nat → Prop) : Prop where
  j : IsJ w N j
  p : decC.O (fun _ => False) (N + 1) 23 w vp part
  o : decC.slice.O F (N + 1) 32 w vo out
  f1 : ∀ b, F b → N < b ∧ b < w.heap.size
  f2 : ∀ b, F b → vp.ownBlock ≠ some b
  f3 : ∀ b, F b → vo.ownBlock ≠ some b
  f4 : ∀ b, vp.ownBlock = some b → vo.ownBlock ≠ some b

theorem PInv.lt {N : Nat} {w : World} {j : Jd} {vp vo : Value} {part : List Dec} {out : List (List Dec)} {F : Nat → Prop} (h : PInv N w j vp vo part out F) : N < w.heap.size := h.j.lt
theorem PInv.alloc {N : Nat} {w : World} {j : Jd} {vp vo : Value} {part : List Dec} {out : List (List Dec)} {F : Nat → Prop} (h : PInv N w j vp vo part out F) (x : Obj) : PInv N (w.alloc x) j vp vo part out F where
  j := h.j.alloc x
  p := h.p.keep ((Keeps.refl _ _).alloc x)
  o := h.o.keep ((Keeps.refl _ _).alloc x)
  f1 := fun b hb => ⟨(h.f1 b hb).1, by have := (h.f1 b hb).2; simp; omega⟩
  f2 := h.f2
  f3 := h.f3
  f4 := h.f4
theorem PInv.fine {N : Nat} {w w' : World} {j j' : Jd} {vp vo : Value} {part : List Dec} {out : List (List Dec)} {F : Nat → Prop} (h : PInv N w j vp vo part out F) (hj : IsJ w' N j') (hu : Upd (fun k => k = N) w w') : PInv N w' j' vp vo part out F where
  j := hj
  p := h.p.keep (Keeps.of_upd hu fun k hk e => by
    rcases hk with hk | hk
    · exact hk
    · have := (h.p.lt k hk).1; omega)
  o := h.o.keep (Keeps.of_upd hu fun k hk e => by
    rcases hk with hk | hk
    · have := (h.f1 k hk).1; omega
    · have := (h.o.lt k hk).1; omega)
  f1 := fun b hb => ⟨(h.f1 b hb).1, Nat.lt_of_lt_of_le (h.f1 b hb).2 hu.size⟩
  f2 := h.f2
  f3 := h.f3
  f4 := h.f4
/-- Behind an append to the part. -/
theorem PInv.part {N : Nat} {w w' : World} {j : Jd} {vp vp' vo : Value} {part part' : List Dec} {out : List (List Dec)} {F : Nat → Prop} (h : PInv N w j vp vo part out F)
    (hp : decC.O (fun _ => False) (N + 1) 23 w' vp' part') (hg : w.grownBy w' vp.ownBlock) (hat : vp'.ownBlock = vp.ownBlock ∨ ∃ b, vp'.ownBlock = some b ∧ w.heap.size ≤ b) : PInv N w' j vp' vo part' out F where
  j := (Keeps.of_grown (F := fun k => k = N) hg fun k hk e => by have := (h.p.lt k e).1; omega).blk h.j rfl
  p := hp
  o := h.o.keep (Keeps.of_grown hg fun k hk e => by
    rcases hk with hk | hk
    · exact h.f2 k hk e
    · exact h.f4 k e hk)
  f1 := fun b hb => ⟨(h.f1 b hb).1, Nat.lt_of_lt_of_le (h.f1 b hb).2 hg.size⟩
  f2 := fun b hb e => by
    rcases hat with hat | ⟨k, hat, hk⟩
    · exact h.f2 b hb (hat.symm.trans e)
    · have := (h.f1 b hb).2
      rw [hat] at e
      injection e with e
      omega
  f3 := h.f3
  f4 := fun b hb e => by
    rcases hat with hat | ⟨k, hat, hk⟩
    · exact h.f4 b (hat.symm.trans hb) e
    · have := (h.o.lt b e).2
      rw [hat] at hb
      injection hb with hb
      omega
/-- The part goes into the rows. -/
theorem PInv.out {N : Nat} {w w' : World} {j : Jd} {vp vo vo' : Value} {part : List Dec} {out : List (List Dec)} {F : Nat → Prop} (h : PInv N w j vp vo part out F)
    (ho : decC.slice.O (fun b => F b ∨ vp.ownBlock = some b) (N + 1) 32 w' vo' (out ++ [part])) (hg : w.grownBy w' vo.ownBlock) (hat : vo'.ownBlock = vo.ownBlock ∨ ∃ b, vo'.ownBlock = some b ∧ w.heap.size ≤ b) :
    PInv N w' j (.slice none 0 0) vo' [] (out ++ [part]) (fun b => F b ∨ vp.ownBlock = some b) where
  j := (Keeps.of_grown (F := fun k => k = N) hg fun k hk e => by have := (h.o.lt k e).1; omega).blk h.j rfl
  p := Cod.O.nil _ _ _ _ _
  o := ho
  f1 := fun b hb => by
    rcases hb with hb | hb
    · exact ⟨(h.f1 b hb).1, Nat.lt_of_lt_of_le (h.f1 b hb).2 hg.size⟩
    · exact ⟨by have := (h.p.lt b hb).1; omega, Nat.lt_of_lt_of_le (h.p.lt b hb).2 hg.size⟩
  f2 := fun b _ e => by simp [Value.ownBlock] at e
  f3 := fun b hb e => by
    rcases hat with hat | ⟨k, hat, hk⟩
    · rw [hat] at e
      rcases hb with hb | hb
      · exact h.f3 b hb e
      · exact h.f4 b hb e
    · rw [hat] at e
      injection e with e
      rcases hb with hb | hb
      · have := (h.f1 b hb).2; omega
      · have := (h.p.lt b hb).2; omega
  f4 := fun b e => by simp [Value.ownBlock] at e

theorem PInv.below {N : Nat} {w w0 : World} {j : Jd} {vp vo : Value} {part : List Dec} {out : List (List Dec)} {F : Nat → Prop} (h : PInv N w j vp vo part out F) (hb : Below N w0 w) {w' : World} {v : Value} (hv : v = vp ∨ v = vo) (hg : w.grownBy w' v.ownBlock) : Below N w0 w' :=
  hb.grown hg (Nat.le_of_lt h.lt) fun k hk => by
    rcases hv with rfl | rfl
    · have := (h.p.lt k hk).1; omega
    · have := (h.o.lt k hk).1; omega

theorem box4_after {S : Nat → Prop} {W w' : World} {t : TypeId} {a0 a1 a2 a3 : Value} (hu : Upd S (W.alloc (.cells #[a0, a1, a2, a3] t)) w') (hS : ¬ S W.heap.size) :
    w'.cell? ⟨W.heap.size, 0, none⟩ = some a0 ∧ w'.cell? ⟨W.heap.size, 1, none⟩ = some a1 ∧ w'.cell? ⟨W.heap.size, 2, none⟩ = some a2 ∧ w'.cell? ⟨W.heap.size, 3, none⟩ = some a3 ∧ W.heap.size < w'.heap.size := by
  have bx := (Blk.new W #[a0, a1, a2, a3] t).upd hu hS
  exact ⟨bx.cell 0, bx.cell 1, bx.cell 2, bx.cell 3, bx.lt⟩
theorem box4_grown {w w1 : World} {g : Nat} {row : Option Nat} {a0 a1 a2 a3 : Value} (h : w.cell? ⟨g, 0, none⟩ = some a0 ∧ w.cell? ⟨g, 1, none⟩ = some a1 ∧ w.cell? ⟨g, 2, none⟩ = some a2 ∧ w.cell? ⟨g, 3, none⟩ = some a3) (hs : g < w.heap.size) (hg : w.grownBy w1 row) (hr : row ≠ some g) :
    w1.cell? ⟨g, 0, none⟩ = some a0 ∧ w1.cell? ⟨g, 1, none⟩ = some a1 ∧ w1.cell? ⟨g, 2, none⟩ = some a2 ∧ w1.cell? ⟨g, 3, none⟩ = some a3 ∧ g < w1.heap.size := by
  have hk : Keeps (fun k => k = g) w w1 := Keeps.of_grown hg fun k hk => by rw [hk]; exact hr
  exact ⟨(hk.cell (p := ⟨g, 0, none⟩) hs rfl).trans h.1, (hk.cell (p := ⟨g, 1, none⟩) hs rfl).trans h.2.1, (hk.cell (p := ⟨g, 2, none⟩) hs rfl).trans h.2.2.1, (hk.cell (p := ⟨g, 3, none⟩) hs rfl).trans h.2.2.2, Nat.lt_of_lt_of_le hs hg.size⟩
/-- The rows that are handed back. -/
theorem PInv.result {N : Nat} {w w' : World} {j : Jd} {vp vo vo' : Value} {part : List Dec} {out : List (List Dec)} {F : Nat → Prop} (h : PInv N w j vp vo part out F)
    (ho : decC.slice.O (fun b => F b ∨ vp.ownBlock = some b) (N + 1) 32 w' vo' (out ++ [part])) : decC.slice.V (fun b => N ≤ b) w' vo' (out ++ [part]) :=
  ho.toV.mono fun b _ hb => by
    rcases hb with (hb | hb) | hb
    · exact Nat.le_of_lt (h.f1 b hb).1
    · have := (h.p.lt b hb).1; omega
    · have := (ho.lt b hb).1; omega
theorem fine_calls' (w : World) (g : Nat) (j : Jd) (d : Dec) (ok : Bool) (j' : Jd) (hf : j.fine d = (ok, j')) (hj : IsJ w g j) :
    Calls Tryd.prog 49 #[.pointer (some ⟨g, 0, none⟩), .agg d.cells] w fun e w' => e = .returned (.bool ok) ∧ IsJ w' g j' ∧ Upd (fun k => k = g) w w' := by
  have := fine_calls w g j d hj
  rw [hf] at this
  exact this

set_option maxHeartbeats 4000000 in
theorem parts_calls (w : World) (A : Option Addr) (c : Nat) (l : List Dec) (hl : l.length ≤ 1048576) (F : Nat → Prop) (hr : decC.R F w A l) :
    Calls Tryd.prog 17 #[.slice A l.length c] w fun e w' => ∃ v, e = .returned v ∧ decC.slice.V (fun b => w.heap.size ≤ b) w' v (partsJ ⟨0, 0, false⟩ [] [] l) ∧ Below w.heap.size w w' := by
  have HR := Lib.hid hr; clear hr
  obtain ⟨R, hR⟩ : ∃ R, R = partsJ ⟨0, 0, false⟩ [] [] l := ⟨_, rfl⟩
  rw [← hR]
  have HRun := Lib.hid hR; clear hR
  go_enter Tryd.func17, Tryd.ntmps17
  go_wp2
  go_loopw [4, 5, 11] (fun vp vo i wr => ∃ (k : Nat) (j : Jd) (part : List Dec) (out : List (List Dec)) (F : Nat → Prop), k ≤ l.length ∧ part.length ≤ k ∧ out.length ≤ k ∧ i = .int .i64 k ∧ Hid (PInv w.heap.size wr j vp vo part out F) ∧ Hid (Below w.heap.size w wr) ∧ Hid (R = partsJ j part out (l.drop k)))
    (fun _ _ i _ => l.length - (intOf i).toNat)
  case atStart =>
    exact ⟨0, ⟨0, 0, false⟩, [], [], fun _ => False, Nat.zero_le _, Nat.le_refl _, Nat.le_refl _, rfl, ⟨Blk.new _ _ _, Cod.O.nil _ _ _ _ _, Cod.O.nil _ _ _ _ _, fun _ h => h.elim, fun _ h => h.elim, fun _ h => h.elim, fun _ h => by simp [Value.ownBlock] at h⟩, (Below.refl _ _).alloc (Nat.le_refl _) _, HRun⟩
  case round =>
    obtain ⟨k, j, part, out, F, hk, hpk, hok, rfl, hP, hb, hrun⟩ := hrel
    by_cases hlt : k < l.length
    · obtain ⟨b, o, rfl, hbl, h0, h1, h2, h3⟩ := (HR.out.keep (Keeps.of_below hb.out fun k _ h => h)).dec k hlt
      have hs : w.heap.size < wr.heap.size := hP.out.lt
      have hd := Lib.hid (drop_cons l k hlt)
      obtain ⟨⟨a0, a1, a2, a3⟩, hdd⟩ : ∃ d, d = l[k] := ⟨_, rfl⟩
      rw [← hdd] at h0 h1 h2 h3 hd
      clear hdd
      have c0 : wr.cell? ⟨w.heap.size, 0, none⟩ = some (.int .i64 j.e) := hP.out.j.cell 0
      have hd' := hd; clear hd
      obtain ⟨ok, ⟨e', h', r'⟩, hjf⟩ : ∃ ok j', j.fine ⟨a0, a1, a2, a3⟩ = (ok, j') := ⟨_, _, rfl⟩
      have HF := Lib.hid hjf; clear hjf
      obtain ⟨A4, c4, rfl⟩ := hP.out.p.form
      have hol := Lib.hid hP.out.o.lt
      rcases ok with _ | _
      · go_wp2_with (first | (go_at_call 49; refine (fine_calls' _ w.heap.size j ⟨_, _, _, _⟩ _ _ HF.out (hP.out.j.alloc _)).mono ?_; rintro e w' ⟨rfl, hj2, hu2⟩; have c1 : w'.cell? ⟨w.heap.size, 0, none⟩ = some (.int .i64 e') := hj2.cell 0; obtain ⟨b0, b1, b2, b3, hs2⟩ := box4_after hu2 (Nat.ne_of_gt hs); have hP2 := Lib.hid ((hP.out.alloc _).fine hj2 hu2); have hb2 := Lib.hid ((hb.out.alloc (Nat.le_of_lt hs) _).upd hu2 (fun k hk => Nat.le_of_eq hk.symm) (by simp; omega)); clear hj2) | (at_builtin; refine wp_append1 decC.slice (fun b => F b ∨ (Value.slice A4 part.length c4).ownBlock = some b) (w.heap.size + 1) rfl (.tmp 33) (.tmp 35) 35 (.slice none 0 0) 24 rfl Tryd.underlying35 info32 rfl (by decide) (by decide) u5 out part rfl rfl (hP2.out.o.mono fun b _ h => .inl h) ⟨_, rfl, hP2.out.p.toV.mono fun b _ h => .inr (h.elim False.elim id)⟩ (by simp [Value.oneCell']) (by have := hP2.out.lt; omega) (fun b hb => hb.elim (fun h => ⟨(hP2.out.f1 b h).2, hP2.out.f3 b h⟩) (fun h => ⟨(hP2.out.p.lt b h).2, hP2.out.f4 b h⟩)) (by omega) ?_))
        intro v1 w1 ho1 hg1 hat1
        have HO := Lib.hid ho1; have HG := Lib.hid hg1
        clear ho1 hg1 hat1
        go_wp2
        go_ret
        have hR : R = out ++ [part] := by
          have := hrun.out
          rw [hd'.out] at this
          simp only [partsJ, HF.out] at this
          simpa using this
        rw [hR]
        exact ⟨v1, rfl, hP2.out.result HO.out, hP2.out.below hb2.out (.inr rfl) HG.out⟩
      · rcases Bool.eq_false_or_eq_true (decide (j.e < e')) with he | he
        · go_wp2_with (first | (go_at_call 49; refine (fine_calls' _ w.heap.size j ⟨_, _, _, _⟩ _ _ HF.out (hP.out.j.alloc _)).mono ?_; rintro e w' ⟨rfl, hj2, hu2⟩; have c1 : w'.cell? ⟨w.heap.size, 0, none⟩ = some (.int .i64 e') := hj2.cell 0; obtain ⟨b0, b1, b2, b3, hs2⟩ := box4_after hu2 (Nat.ne_of_gt hs); have hP2 := Lib.hid ((hP.out.alloc _).fine hj2 hu2); have hb2 := Lib.hid ((hb.out.alloc (Nat.le_of_lt hs) _).upd hu2 (fun k hk => Nat.le_of_eq hk.symm) (by simp; omega)); clear hj2) | (at_builtin; refine wp_append1 decC.slice (fun b => F b ∨ (Value.slice A4 part.length c4).ownBlock = some b) (w.heap.size + 1) rfl (.tmp 24) (.tmp 26) 35 (.slice none 0 0) 24 rfl Tryd.underlying35 info32 rfl (by decide) (by decide) u5 out part rfl rfl (hP2.out.o.mono fun b _ h => .inl h) ⟨_, rfl, hP2.out.p.toV.mono fun b _ h => .inr (h.elim False.elim id)⟩ (by simp [Value.oneCell']) (by have := hP2.out.lt; omega) (fun b hb => hb.elim (fun h => ⟨(hP2.out.f1 b h).2, hP2.out.f3 b h⟩) (fun h => ⟨(hP2.out.p.lt b h).2, hP2.out.f4 b h⟩)) (by omega) ?_))
          intro v1 w1 ho1 hg1 hat1
          obtain ⟨d0, d1, d2, d3, hs3⟩ := box4_grown ⟨b0, b1, b2, b3⟩ hs2 hg1 (fun e => by have := (hol.out _ e).2; omega)
          have hP3 := Lib.hid (hP2.out.out ho1 hg1 hat1)
          have hb3 := Lib.hid (hP2.out.below hb2.out (.inr rfl) hg1)
          clear ho1 hg1 hat1
          go_wp2_with (at_builtin; refine wp_append1 decC (fun _ => False) (w.heap.size + 1) rfl (.tmp 28) (.tmp 30) 32 (.agg #[.int .i64 0, .int .i64 0, .int .i64 0, .int .i64 0]) 32 rfl Tryd.underlying32 info23 rfl (by decide) (by decide) (.slice none 0 0) [] ⟨a0, a1, a2, a3⟩ rfl rfl hP3.out.p rfl (by simp [Value.oneCell']) (by have := hP3.out.lt; omega) (fun b hb => hb.elim) (by first | omega | simp) ?_)
          intro v2 w2 ho2 hg2 hat2
          have hP4 := Lib.hid (hP3.out.part ho2 hg2 hat2)
          have hb4 := Lib.hid (hP3.out.below hb3.out (.inl rfl) hg2)
          clear ho2 hg2 hat2
          go_wp2
          refine ⟨⟨k + 1, ⟨e', h', r'⟩, [⟨a0, a1, a2, a3⟩], out ++ [part], _, by omega, by simp, by simp; omega, by go_num, hP4, hb4, ?_⟩, by simp [intOf]; omega⟩
          have := hrun.out
          rw [hd'.out] at this
          simp only [partsJ, HF.out, of_decide_eq_true he, if_true] at this
          exact this
        · go_wp2_with (first | (go_at_call 49; refine (fine_calls' _ w.heap.size j ⟨_, _, _, _⟩ _ _ HF.out (hP.out.j.alloc _)).mono ?_; rintro e w' ⟨rfl, hj2, hu2⟩; have c1 : w'.cell? ⟨w.heap.size, 0, none⟩ = some (.int .i64 e') := hj2.cell 0; obtain ⟨b0, b1, b2, b3, hs2⟩ := box4_after hu2 (Nat.ne_of_gt hs); have hP2 := Lib.hid ((hP.out.alloc _).fine hj2 hu2); have hb2 := Lib.hid ((hb.out.alloc (Nat.le_of_lt hs) _).upd hu2 (fun k hk => Nat.le_of_eq hk.symm) (by simp; omega)); clear hj2) | (at_builtin; refine wp_append1 decC (fun _ => False) (w.heap.size + 1) rfl (.tmp 28) (.tmp 30) 32 (.agg #[.int .i64 0, .int .i64 0, .int .i64 0, .int .i64 0]) 32 rfl Tryd.underlying32 info23 rfl (by decide) (by decide) (.slice A4 part.length c4) part ⟨a0, a1, a2, a3⟩ rfl rfl hP2.out.p rfl (by simp [Value.oneCell']) (by have := hP2.out.lt; omega) (fun b hb => hb.elim) (by first | omega | simp) ?_))
          intro v2 w2 ho2 hg2 hat2
          have hP4 := Lib.hid (hP2.out.part ho2 hg2 hat2)
          have hb4 := Lib.hid (hP2.out.below hb2.out (.inl rfl) hg2)
          clear ho2 hg2 hat2
          go_wp2
          refine ⟨⟨k + 1, ⟨e', h', r'⟩, part ++ [⟨a0, a1, a2, a3⟩], out, _, by omega, by simp; omega, by omega, by go_num, hP4, hb4, ?_⟩, by simp [intOf]; omega⟩
          have := hrun.out
          rw [hd'.out] at this
          simp only [partsJ, HF.out, of_decide_eq_false he, if_true, if_false] at this
          exact this
    · obtain ⟨A4, c4, rfl⟩ := hP.out.p.form
      go_wp2_with (at_builtin; refine wp_append1 decC.slice (fun b => F b ∨ (Value.slice A4 part.length c4).ownBlock = some b) (w.heap.size + 1) rfl (.tmp 33) (.tmp 35) 35 (.slice none 0 0) 24 rfl Tryd.underlying35 info32 rfl (by decide) (by decide) u5 out part rfl rfl (hP.out.o.mono fun b _ h => .inl h) ⟨_, rfl, hP.out.p.toV.mono fun b _ h => .inr (h.elim False.elim id)⟩ (by simp [Value.oneCell']) (by have := hP.out.lt; omega) (fun b hb => hb.elim (fun h => ⟨(hP.out.f1 b h).2, hP.out.f3 b h⟩) (fun h => ⟨(hP.out.p.lt b h).2, hP.out.f4 b h⟩)) (by omega) ?_)
      intro v1 w1 ho1 hg1 hat1
      have HO := Lib.hid ho1; have HG := Lib.hid hg1
      clear ho1 hg1 hat1
      go_wp2
      go_ret
      have hR : R = out ++ [part] := by
        have := hrun.out
        rw [List.drop_of_length_le (by omega)] at this
        exact this
      rw [hR]
      exact ⟨v1, rfl, hP.out.result HO.out, hP.out.below hb.out (.inr rfl) HG.out⟩
end Go.Proofs.YtmokcebpgfhddaaDoor

/-
  level: upgrade, lower, finalise: contracts.
-/
import Derived.Test.YtnnpjjehecbljaaDoorLCl
import Derived.Test.YtnnpjjehecbljaaDoorFRiB
namespace Go.Proofs.YtnnpjjehecbljaaDoor
open Go.RowKit

/-- A config of its own, behind a pointer: its blocks lie from B on. -/
def LM (B : Nat) (w : World) (dx : Nat) (c : Cfg) : Prop :=
  ∃ gm cm gh ch, Blk w dx (cfC gm cm gh ch c) 25 ∧ Iv w gm cm c.M ∧ Iv w gh ch c.G ∧ gm ≠ gh ∧ B ≤ gm ∧ B ≤ gh ∧ gm ≠ dx ∧ gh ≠ dx ∧ B ≤ dx
theorem Fr.toBelow {S : List Nat} {B : Nat} {w w' : World} (h : Fr S w w') (hB : B ≤ w.heap.size) (hS : ∀ x, x ∈ S → B ≤ x) : Below B w w' :=
  ⟨h.os, h.tape, h.output, h.size, fun k hk => h.block k (by omega) (fun hx => by have := hS k hx; omega)⟩
/-- What a change of a config answers. -/
def Told (B dx : Nat) (w : World) (a : Cfg × Int) (r : Ending) (w' : World) : Prop :=
  r = .returned (.int .i64 a.2) ∧ (a.2 = 0 → LM B w' dx a.1) ∧ Below B w w'

theorem Told.no {P : Prop} {a : Cfg} {k : Int} (h : (a, k).2 = 0) (hk : k ≠ 0) : P := absurd h hk

set_option maxHeartbeats 4000000 in
set_option maxRecDepth 100000 in
theorem lLower (B dx : Nat) (c : Cfg) (e : Ent) (w : World) (h : LM B w dx c) :
    Calls Tryd.prog 24 #[.pointer (some ⟨dx, 0, none⟩), .agg e.cells] w fun r w' => Told B dx w (lowerOf c) r w' := by
  obtain ⟨gm, cm, gh, ch, hB, hM, hG, hne, b1, b2, n1, n2, b3⟩ := h
  have hF := (Fr.refl [dx] w).alloc (.cells e.cells 31)
  have hlt := hB.lt
  have HA := Lib.hid (And.intro hM (And.intro hG (And.intro hB hF)))
  clear hF hM hG
  unfold Ent.cells at *
  unfold cfC ivV at *
  have c2 : w.cell? ⟨dx, 2, none⟩ = some (.int .i64 c.lvl) := hB.cellAt (i := 2) rfl
  have c3 : w.cell? ⟨dx, 3, none⟩ = some (.bool c.fin) := hB.cellAt (i := 3) rfl
  have z2 := hB.froz 2
  clear hB
  unfold lowerOf
  obtain ⟨M, G, lv, fin⟩ := c
  simp only at *
  by_cases h1 : lv = 1
  · rw [if_pos h1]
    subst h1
    go_enter Tryd.func24, Tryd.ntmps24
    go_wp2_with fail
    go_ret
    exact ⟨rfl, fun h => Told.no h (by decide), HA.out.2.2.2.toBelow (by omega) (by intro x hx; simp at hx; omega)⟩
  · rw [if_neg h1]
    cases fin with
    | true =>
      rw [if_pos rfl]
      go_enter Tryd.func24, Tryd.ntmps24
      go_wp2_with fail
      go_ret
      exact ⟨rfl, fun h => Told.no h (by decide), HA.out.2.2.2.toBelow (by omega) (by intro x hx; simp at hx; omega)⟩
    | false =>
      rw [if_neg (by decide)]
      go_enter Tryd.func24, Tryd.ntmps24
      go_wp2_with fail
      go_ret
      obtain ⟨hM1, hG1, hB1, hF⟩ := HA.out
      exact ⟨rfl, fun _ => ⟨gm, cm, gh, ch, (hB1.set 2 _).alloc _, (hM1.far n1 _).alloc _, (hG1.far n2 _).alloc _, hne, b1, b2, n1, n2, b3⟩, (((Fr.refl [dx] w).setCell (p := ⟨dx, 2, none⟩) (by simp) _).alloc _).toBelow (by omega) (by intro x hx; simp at hx; omega)⟩
set_option maxHeartbeats 4000000 in
set_option maxRecDepth 100000 in
theorem lFinal (B dx : Nat) (c : Cfg) (e : Ent) (w : World) (h : LM B w dx c) :
    Calls Tryd.prog 25 #[.pointer (some ⟨dx, 0, none⟩), .agg e.cells] w fun r w' => Told B dx w (finaliseOf c) r w' := by
  obtain ⟨gm, cm, gh, ch, hB, hM, hG, hne, b1, b2, n1, n2, b3⟩ := h
  have hF := (Fr.refl [dx] w).alloc (.cells e.cells 31)
  have hlt := hB.lt
  have HA := Lib.hid (And.intro hM (And.intro hG (And.intro hB hF)))
  clear hF hM hG
  unfold Ent.cells at *
  unfold cfC ivV at *
  have c2 : w.cell? ⟨dx, 2, none⟩ = some (.int .i64 c.lvl) := hB.cellAt (i := 2) rfl
  have c3 : w.cell? ⟨dx, 3, none⟩ = some (.bool c.fin) := hB.cellAt (i := 3) rfl
  have z2 := hB.froz 3
  clear hB
  unfold finaliseOf
  obtain ⟨M, G, lv, fin⟩ := c
  simp only at *
  by_cases h1 : lv = 1
  · rw [if_pos h1]
    subst h1
    go_enter Tryd.func25, Tryd.ntmps25
    go_wp2_with fail
    go_ret
    exact ⟨rfl, fun h => Told.no h (by decide), HA.out.2.2.2.toBelow (by omega) (by intro x hx; simp at hx; omega)⟩
  · rw [if_neg h1]
    cases fin with
    | true =>
      rw [if_pos rfl]
      go_enter Tryd.func25, Tryd.ntmps25
      go_wp2_with fail
      go_ret
      exact ⟨rfl, fun h => Told.no h (by decide), HA.out.2.2.2.toBelow (by omega) (by intro x hx; simp at hx; omega)⟩
    | false =>
      rw [if_neg (by decide)]
      go_enter Tryd.func25, Tryd.ntmps25
      go_wp2_with fail
      go_ret
      obtain ⟨hM1, hG1, hB1, hF⟩ := HA.out
      exact ⟨rfl, fun _ => ⟨gm, cm, gh, ch, (hB1.set 3 _).alloc _, (hM1.far n1 _).alloc _, (hG1.far n2 _).alloc _, hne, b1, b2, n1, n2, b3⟩, (((Fr.refl [dx] w).setCell (p := ⟨dx, 3, none⟩) (by simp) _).alloc _).toBelow (by omega) (by intro x hx; simp at hx; omega)⟩
theorem sContains (g cap : Nat) (l : List Int) (x : Int) (w : World) (h : Iv w g cap l) (hl : l.length ≤ 4096) (n : Nat) (hn : n = l.length) :
    Calls Tryd.prog 27 #[.slice (some ⟨g, 0, none⟩) n cap, .int .i64 x] w fun e w' => e = .returned (.bool (l.contains x)) ∧ w' = w := by
  subst hn
  refine (Tryd.slices_Contains_int g 0 l.length cap l x w (Nat.le_refl _) (by omega) h.cell).mono ?_
  rw [List.take_length]
  exact fun _ _ h => h

set_option maxHeartbeats 4000000 in
set_option maxRecDepth 100000 in
theorem lUpgrade (B dx : Nat) (c : Cfg) (e : Ent) (w : World) (h : LM B w dx c) (h4 : c.G.length ≤ 4096) :
    Calls Tryd.prog 23 #[.pointer (some ⟨dx, 0, none⟩), .agg e.cells] w fun r w' => Told B dx w (upgradeOf c) r w' := by
  obtain ⟨gm, cm, gh, ch, hB, hM, hG, hne, b1, b2, n1, n2, b3⟩ := h
  have hF := (Fr.refl [dx] w).alloc (.cells e.cells 31)
  have hlt := hB.lt
  have HA := Lib.hid (And.intro hM (And.intro hG (And.intro hB hF)))
  have HC := Lib.hid (sContains gh ch c.G 1 (w.alloc (.cells e.cells 31)) (hG.alloc _) h4 _ rfl)
  clear hF hM hG
  unfold Ent.cells at *
  unfold cfC ivV at *
  have c1 : w.cell? ⟨dx, 1, none⟩ = some (.slice (some ⟨gh, 0, none⟩) c.G.length ch) := hB.cellAt (i := 1) rfl
  have c2 : w.cell? ⟨dx, 2, none⟩ = some (.int .i64 c.lvl) := hB.cellAt (i := 2) rfl
  have z2 := hB.froz 2
  clear hB
  unfold upgradeOf
  obtain ⟨M, G, lv, fin⟩ := c
  simp only at *
  by_cases h1 : lv = 2
  · rw [if_pos h1]
    subst h1
    go_enter Tryd.func23, Tryd.ntmps23
    go_wp2_with fail
    go_ret
    exact ⟨rfl, fun h => Told.no h (by decide), HA.out.2.2.2.toBelow (by omega) (by intro x hx; simp at hx; omega)⟩
  · rw [if_neg h1]
    cases hc : G.contains 1 with
    | true =>
      rw [if_pos rfl]
      rw [hc] at HC
      go_enter Tryd.func23, Tryd.ntmps23
      go_wp2_with (go_at_call 27; refine HC.out.mono ?_; rintro r w1 ⟨rfl, rfl⟩)
      go_ret
      exact ⟨rfl, fun h => Told.no h (by decide), HA.out.2.2.2.toBelow (by omega) (by intro x hx; simp at hx; omega)⟩
    | false =>
      rw [if_neg (by decide)]
      rw [hc] at HC
      go_enter Tryd.func23, Tryd.ntmps23
      go_wp2_with (go_at_call 27; refine HC.out.mono ?_; rintro r w1 ⟨rfl, rfl⟩)
      go_ret
      obtain ⟨hM1, hG1, hB1, hF⟩ := HA.out
      exact ⟨rfl, fun _ => ⟨gm, cm, gh, ch, (hB1.set 2 _).alloc _, (hM1.far n1 _).alloc _, (hG1.far n2 _).alloc _, hne, b1, b2, n1, n2, b3⟩, (((Fr.refl [dx] w).setCell (p := ⟨dx, 2, none⟩) (by simp) _).alloc _).toBelow (by omega) (by intro x hx; simp at hx; omega)⟩

end Go.Proofs.YtnnpjjehecbljaaDoor

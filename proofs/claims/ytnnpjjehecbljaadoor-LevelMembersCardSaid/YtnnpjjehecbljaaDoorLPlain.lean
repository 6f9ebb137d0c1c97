/-
  Package level, in plain Lean: configs, what changes them.
-/
import Derived.Test.YtnnpjjehecbljaaDoorFRiB
import Derived.Lib.SlicesCompact
namespace Go.Proofs.YtnnpjjehecbljaaDoor
open Go.RowKit

structure Cfg where
  M : List Int
  G : List Int
  lvl : Int
  fin : Bool

def rightL : List Int → List Int → Int → Int → Bool
  | m :: M, g :: G, lvl, last => decide (last + 1 ≤ m) && decide (m ≤ 7) && decide (lvl ≤ g) && decide (g ≤ 2) && rightL M G lvl m
  | _, _, _, _ => true
def Cfg.ok (c : Cfg) : Bool :=
  decide (1 ≤ c.M.length) && decide (c.M.length ≤ 7) && decide (c.G.length = c.M.length) && decide (1 ≤ c.lvl) && decide (c.lvl ≤ 2) && !(c.fin && decide (c.lvl < 2)) && rightL c.M c.G c.lvl 0
def posL (l : List Int) (x : Int) : Nat := l.countP (· < x)
def insL (l : List Int) (i : Nat) (x : Int) : List Int := l.take i ++ x :: l.drop i
def delL (l : List Int) (i : Nat) : List Int := l.take i ++ l.drop (i + 1)
def addOf (c : Cfg) (node : Int) : Cfg × Int :=
  if c.M.contains node = true then (c, 10) else if c.lvl = 2 then (c, 8) else (⟨insL c.M (posL c.M node) node, insL c.G (posL c.M node) 1, c.lvl, c.fin⟩, 0)
def removeOf (c : Cfg) (node : Int) : Cfg × Int :=
  if c.M.contains node = false then (c, 6) else if c.M.length = 1 then (c, 10) else (⟨delL c.M (posL c.M node), delL c.G (posL c.M node), c.lvl, c.fin⟩, 0)
def registerOf (c : Cfg) (node level : Int) : Cfg × Int :=
  if c.M.contains node = false then (c, 6) else if level < c.lvl then (c, 8) else (⟨c.M, c.G.set (posL c.M node) level, c.lvl, c.fin⟩, 0)
def upgradeOf (c : Cfg) : Cfg × Int :=
  if c.lvl = 2 then (c, 10) else if c.G.contains 1 = true then (c, 8) else (⟨c.M, c.G, 2, c.fin⟩, 0)
def lowerOf (c : Cfg) : Cfg × Int :=
  if c.lvl = 1 then (c, 10) else if c.fin = true then (c, 8) else (⟨c.M, c.G, 1, c.fin⟩, 0)
def finaliseOf (c : Cfg) : Cfg × Int :=
  if c.lvl = 1 then (c, 8) else if c.fin = true then (c, 10) else (⟨c.M, c.G, c.lvl, true⟩, 0)
/-- What Apply answers: for an entry that may be, or not (ok), of a kind, a node, a level. -/
def applyOf (c : Cfg) (ok : Bool) (kind node level : Int) : Cfg × Int :=
  if c.ok = false ∨ ok = false then (c, 1)
  else if kind = 5 then addOf c node
  else if kind = 6 then removeOf c node
  else if kind = 7 then registerOf c node level
  else if kind = 8 then upgradeOf c
  else if kind = 9 then lowerOf c
  else if kind = 10 then finaliseOf c
  else (c, 0)
def noCfg : Cfg := ⟨[], [], 0, false⟩
/-! ### the members of a list: each once, rising -/
def insS (x : Int) : List Int → List Int
  | [] => [x]
  | y :: l => if x ≤ y then x :: y :: l else y :: insS x l
def isortL : List Int → List Int
  | [] => []
  | x :: l => insS x (isortL l)
def memL (l : List Int) : List Int := Lib.compact (isortL l)
def newOf (M : List Int) : Cfg × Bool := if (Cfg.ok ⟨M, List.replicate M.length 1, 1, false⟩) = true then (⟨M, List.replicate M.length 1, 1, false⟩, true) else (noCfg, false)
/-- The law's `some`: members of bits. -/
def someL (b : Nat) : List Int := (1 + (b / 128 : Nat) : Int) :: ((List.range 7).filter (fun i => b / 2 ^ i % 2 == 1)).map (fun i => ((i : Nat) : Int) + 1)

theorem some_new : ∀ b : Fin 256, Cfg.ok ⟨memL (someL b.val), List.replicate (memL (someL b.val)).length 1, 1, false⟩ = true := by decide +kernel

/-! ### LevelRises -/
/-- The config behind i registered members. -/
def riseC (M : List Int) (i : Nat) : Cfg := ⟨M, List.replicate i 2 ++ List.replicate (M.length - i) 1, 1, false⟩
def Cfg.eqB (a b : Cfg) : Bool := decide (a.M = b.M) && decide (a.G = b.G) && decide (a.lvl = b.lvl) && (a.fin == b.fin)
theorem Cfg.eqB_eq {a b : Cfg} (h : a.eqB b = true) : a = b := by
  unfold Cfg.eqB at h
  simp only [Bool.and_eq_true, decide_eq_true_eq, beq_iff_eq] at h
  obtain ⟨⟨⟨h1, h2⟩, h3⟩, h4⟩ := h
  cases a; cases b
  simp_all
def riseB (M : List Int) : Bool :=
  (List.range M.length).all (fun i => (applyOf (riseC M i) true 8 0 0).2 == 8 && (applyOf (riseC M i) true 7 (M.getD i 0) 2).2 == 0 && (applyOf (riseC M i) true 7 (M.getD i 0) 2).1.eqB (riseC M (i + 1))) &&
  (applyOf (riseC M M.length) true 8 0 0).2 == 0 && (applyOf (riseC M M.length) true 8 0 0).1.eqB ⟨M, List.replicate M.length 2, 2, false⟩ &&
  (applyOf ⟨M, List.replicate M.length 2, 2, false⟩ true 10 0 0).2 == 0 && (applyOf ⟨M, List.replicate M.length 2, 2, false⟩ true 10 0 0).1.eqB ⟨M, List.replicate M.length 2, 2, true⟩ &&
  (applyOf ⟨M, List.replicate M.length 2, 2, true⟩ true 9 0 0).2 == 8 && (applyOf ⟨M, List.replicate M.length 2, 2, true⟩ true 9 0 0).1.eqB ⟨M, List.replicate M.length 2, 2, true⟩ &&
  (applyOf ⟨M, List.replicate M.length 2, 2, false⟩ true 9 0 0).2 == 0 && (applyOf ⟨M, List.replicate M.length 2, 2, false⟩ true 9 0 0).1.eqB ⟨M, List.replicate M.length 2, 1, false⟩
theorem some_rises : ∀ b : Fin 256, riseB (memL (someL b.val)) = true := by decide +kernel

/-! ### LevelMembers -/
def membersB (M : List Int) (n : Int) : Bool :=
  let c : Cfg := ⟨M, List.replicate M.length 1, 1, false⟩
  let d := applyOf c true 5 n 0
  let f := applyOf d.1 true 6 n 0
  (decide (d.2 = 0) == !(M.contains n)) && d.1.M.contains n && (decide (f.2 = 0) == !(decide (d.1.M.length = 1))) && (decide (d.1.M.length = 1) || !(f.1.M.contains n)) && (M.contains n || f.1.eqB c)
theorem some_members : ∀ b : Fin 256, ∀ n : Fin 7, membersB (memL (someL b.val)) (1 + (n.val : Int)) = true := by decide +kernel
end Go.Proofs.YtnnpjjehecbljaaDoor

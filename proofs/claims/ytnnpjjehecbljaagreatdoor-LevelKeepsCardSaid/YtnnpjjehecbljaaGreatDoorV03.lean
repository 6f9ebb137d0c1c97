/-
  Texts of this seat, joined: FRiB LPlain LKeep LAns LEnt LMem LCl LOp1 LRt LOp2 LRep Sep LIns OrdL.
-/
import Derived.Test.YtnnpjjehecbljaaGreatDoorV02
import Derived.StillTailTactics
import Derived.Lib.SlicesCompact
import Derived.Test.YtnnpjjehecbljaaGreatDoorV00
import Derived.Test.YtnnpjjehecbljaaGreatDoorV01
import Derived.Deep.RegionWith
import Derived.Deep.RegionHeld3
import Derived.Shelf.Spec.SlicesInsert
import Derived.KernelRfl
import Derived.Shelf.Spec.SlicesInsertGrow
import Derived.OrdersHeld
import Derived.WalkKit
import Derived.Lib.Hide
set_option linter.unusedSimpArgs false
set_option linter.unusedVariables false
namespace Go.Proofs.YtnnpjjehecbljaaGreatDoor
open Go.RowKit

def Ent.flds (e : Ent) : List Fld := [⟨99, decide (0 < e.client) || decide (0 < e.seq), decide (0 < e.client)⟩, ⟨98, decide (0 < e.block), smallB e.block⟩, ⟨109, decide (0 < e.many), smallB e.many⟩,
  ⟨110, e.node != 0, nodeB e.node⟩, ⟨108, e.level != 0, e.level == 1 || e.level == 2⟩, ⟨100, !e.data.toList.isEmpty, decide ((e.data.size : Int) ≤ 64)⟩, ⟨111, !e.old.toList.isEmpty, decide ((e.old.size : Int) ≤ 64)⟩]
def Ent.ok (e : Ent) : Bool := (entMay e.kind).2 && decide (0 < e.term) && decide (0 < e.index) && fitB (entMay e.kind).1 e.flds

theorem entS {w : World} {bx : Nat} {e : Ent} {t : TypeId} (h : Blk w bx #[.int .u64 e.term, .int .u64 e.index, .int .i64 e.kind, .int .u64 e.client, .int .u64 e.seq, .int .u64 e.block, .int .u64 e.many, .int .i64 e.node, .int .i64 e.level, .string e.data, .string e.old] t) :
    w.cell? ⟨bx, 0, none⟩ = some (.int .u64 e.term) ∧ w.cell? ⟨bx, 1, none⟩ = some (.int .u64 e.index) ∧ w.cell? ⟨bx, 3, none⟩ = some (.int .u64 e.client) ∧ w.cell? ⟨bx, 4, none⟩ = some (.int .u64 e.seq) ∧ w.cell? ⟨bx, 5, none⟩ = some (.int .u64 e.block) ∧ w.cell? ⟨bx, 6, none⟩ = some (.int .u64 e.many) ∧ w.cell? ⟨bx, 7, none⟩ = some (.int .i64 e.node) ∧ w.cell? ⟨bx, 8, none⟩ = some (.int .i64 e.level) ∧ w.cell? ⟨bx, 9, none⟩ = some (.string e.data) ∧ w.cell? ⟨bx, 10, none⟩ = some (.string e.old) :=
  ⟨h.cellAt (i := 0) rfl, h.cellAt (i := 1) rfl, h.cellAt (i := 3) rfl, h.cellAt (i := 4) rfl, h.cellAt (i := 5) rfl, h.cellAt (i := 6) rfl, h.cellAt (i := 7) rfl, h.cellAt (i := 8) rfl, h.cellAt (i := 9) rfl, h.cellAt (i := 10) rfl⟩

end Go.Proofs.YtnnpjjehecbljaaGreatDoor

namespace Go.Proofs.YtnnpjjehecbljaaGreatDoor
open Go.RowKit

structure Cfg where
  M : List Int
  G : List Int
  lvl : Int
  fin : Bool

def rightL : List Int → List Int → Int → Int → Bool
  | m :: M, g :: G, lvl, last => decide (last + 1 ≤ m) && decide (m ≤ 7) && decide (lvl ≤ g) && decide (g ≤ 2) && rightL M G lvl m
  | _, _, _, _ => true
def Cfg.ok (c : Cfg) : Bool :=
  decide (1 ≤ c.M.length) && decide (c.M.length ≤ 7) && decide (c.G.length = c.M.length) && decide (1 ≤ c.lvl) && decide (c.lvl ≤ 2) && !(c.fin && decide (c.lvl < 2)) && rightL c.M c.G c.lvl 0
def posL (l : List Int) (x : Int) : Nat := l.countP (· < x)
def insL (l : List Int) (i : Nat) (x : Int) : List Int := l.take i ++ x :: l.drop i
def delL (l : List Int) (i : Nat) : List Int := l.take i ++ l.drop (i + 1)
def addOf (c : Cfg) (node : Int) : Cfg × Int :=
  if c.M.contains node = true then (c, 10) else if c.lvl = 2 then (c, 8) else (⟨insL c.M (posL c.M node) node, insL c.G (posL c.M node) 1, c.lvl, c.fin⟩, 0)
def removeOf (c : Cfg) (node : Int) : Cfg × Int :=
  if c.M.contains node = false then (c, 6) else if c.M.length = 1 then (c, 10) else (⟨delL c.M (posL c.M node), delL c.G (posL c.M node), c.lvl, c.fin⟩, 0)
def registerOf (c : Cfg) (node level : Int) : Cfg × Int :=
  if c.M.contains node = false then (c, 6) else if level < c.lvl then (c, 8) else (⟨c.M, c.G.set (posL c.M node) level, c.lvl, c.fin⟩, 0)
def upgradeOf (c : Cfg) : Cfg × Int :=
  if c.lvl = 2 then (c, 10) else if c.G.contains 1 = true then (c, 8) else (⟨c.M, c.G, 2, c.fin⟩, 0)
def lowerOf (c : Cfg) : Cfg × Int :=
  if c.lvl = 1 then (c, 10) else if c.fin = true then (c, 8) else (⟨c.M, c.G, 1, c.fin⟩, 0)
def finaliseOf (c : Cfg) : Cfg × Int :=
  if c.lvl = 1 then (c, 8) else if c.fin = true then (c, 10) else (⟨c.M, c.G, c.lvl, true⟩, 0)
/-- What Apply answers: for an entry that may be, or not (ok), of a kind, a node, a level. -/
def applyOf (c : Cfg) (ok : Bool) (kind node level : Int) : Cfg × Int :=
  if c.ok = false ∨ ok = false then (c, 1)
  else if kind = 5 then addOf c node
  else if kind = 6 then removeOf c node
  else if kind = 7 then registerOf c node level
  else if kind = 8 then upgradeOf c
  else if kind = 9 then lowerOf c
  else if kind = 10 then finaliseOf c
  else (c, 0)
def noCfg : Cfg := ⟨[], [], 0, false⟩
/-! ### the members of a list: each once, rising -/
def insS (x : Int) : List Int → List Int
  | [] => [x]
  | y :: l => if x ≤ y then x :: y :: l else y :: insS x l
def isortL : List Int → List Int
  | [] => []
  | x :: l => insS x (isortL l)
def memL (l : List Int) : List Int := Lib.compact (isortL l)
def newOf (M : List Int) : Cfg × Bool := if (Cfg.ok ⟨M, List.replicate M.length 1, 1, false⟩) = true then (⟨M, List.replicate M.length 1, 1, false⟩, true) else (noCfg, false)
/-- The law's `some`: members of bits. -/
def someL (b : Nat) : List Int := (1 + (b / 128 : Nat) : Int) :: ((List.range 7).filter (fun i => b / 2 ^ i % 2 == 1)).map (fun i => ((i : Nat) : Int) + 1)

theorem some_new : ∀ b : Fin 256, Cfg.ok ⟨memL (someL b.val), List.replicate (memL (someL b.val)).length 1, 1, false⟩ = true := by decide +kernel

/-! ### LevelRises -/
/-- The config behind i registered members. -/
def riseC (M : List Int) (i : Nat) : Cfg := ⟨M, List.replicate i 2 ++ List.replicate (M.length - i) 1, 1, false⟩
def Cfg.eqB (a b : Cfg) : Bool := decide (a.M = b.M) && decide (a.G = b.G) && decide (a.lvl = b.lvl) && (a.fin == b.fin)
theorem Cfg.eqB_eq {a b : Cfg} (h : a.eqB b = true) : a = b := by
  unfold Cfg.eqB at h
  simp only [Bool.and_eq_true, decide_eq_true_eq, beq_iff_eq] at h
  obtain ⟨⟨⟨h1, h2⟩, h3⟩, h4⟩ := h
  cases a; cases b
  simp_all
def riseB (M : List Int) : Bool :=
  (List.range M.length).all (fun i => (applyOf (riseC M i) true 8 0 0).2 == 8 && (applyOf (riseC M i) true 7 (M.getD i 0) 2).2 == 0 && (applyOf (riseC M i) true 7 (M.getD i 0) 2).1.eqB (riseC M (i + 1))) &&
  (applyOf (riseC M M.length) true 8 0 0).2 == 0 && (applyOf (riseC M M.length) true 8 0 0).1.eqB ⟨M, List.replicate M.length 2, 2, false⟩ &&
  (applyOf ⟨M, List.replicate M.length 2, 2, false⟩ true 10 0 0).2 == 0 && (applyOf ⟨M, List.replicate M.length 2, 2, false⟩ true 10 0 0).1.eqB ⟨M, List.replicate M.length 2, 2, true⟩ &&
  (applyOf ⟨M, List.replicate M.length 2, 2, true⟩ true 9 0 0).2 == 8 && (applyOf ⟨M, List.replicate M.length 2, 2, true⟩ true 9 0 0).1.eqB ⟨M, List.replicate M.length 2, 2, true⟩ &&
  (applyOf ⟨M, List.replicate M.length 2, 2, false⟩ true 9 0 0).2 == 0 && (applyOf ⟨M, List.replicate M.length 2, 2, false⟩ true 9 0 0).1.eqB ⟨M, List.replicate M.length 2, 1, false⟩
theorem some_rises : ∀ b : Fin 256, riseB (memL (someL b.val)) = true := by decide +kernel

/-! ### LevelMembers -/
def membersB (M : List Int) (n : Int) : Bool :=
  let c : Cfg := ⟨M, List.replicate M.length 1, 1, false⟩
  let d := applyOf c true 5 n 0
  let f := applyOf d.1 true 6 n 0
  (decide (d.2 = 0) == !(M.contains n)) && d.1.M.contains n && (decide (f.2 = 0) == !(decide (d.1.M.length = 1))) && (decide (d.1.M.length = 1) || !(f.1.M.contains n)) && (M.contains n || f.1.eqB c)
theorem some_members : ∀ b : Fin 256, ∀ n : Fin 7, membersB (memL (someL b.val)) (1 + (n.val : Int)) = true := by decide +kernel
end Go.Proofs.YtnnpjjehecbljaaGreatDoor

namespace Go.Proofs.YtnnpjjehecbljaaGreatDoor
open Go.RowKit

theorem rightL_cons {m g : Int} {M G : List Int} {lvl last : Int} : rightL (m :: M) (g :: G) lvl last = true ↔ (last + 1 ≤ m ∧ m ≤ 7 ∧ lvl ≤ g ∧ g ≤ 2) ∧ rightL M G lvl m = true := by
  show (decide (last + 1 ≤ m) && decide (m ≤ 7) && decide (lvl ≤ g) && decide (g ≤ 2) && rightL M G lvl m) = true ↔ _
  simp only [Bool.and_eq_true, decide_eq_true_eq]
  constructor
  · rintro ⟨⟨⟨⟨h1, h2⟩, h3⟩, h4⟩, h5⟩; exact ⟨⟨h1, h2, h3, h4⟩, h5⟩
  · rintro ⟨⟨h1, h2, h3, h4⟩, h5⟩; exact ⟨⟨⟨⟨h1, h2⟩, h3⟩, h4⟩, h5⟩
theorem rightL_weak {M G : List Int} {lvl a b : Int} (hab : b ≤ a) (h : rightL M G lvl a = true) : rightL M G lvl b = true := by
  match M, G with
  | [], _ => simp [rightL]
  | _ :: _, [] => simp [rightL]
  | m :: M, g :: G =>
    rw [rightL_cons] at h ⊢
    exact ⟨⟨by omega, h.1.2.1, h.1.2.2⟩, h.2⟩
theorem rightL_mem {M : List Int} : ∀ {G : List Int} {lvl last : Int}, G.length = M.length → rightL M G lvl last = true → ∀ y, y ∈ M → last < y := by
  induction M with
  | nil => intro G lvl last _ _ y hy; cases hy
  | cons m M ih =>
    intro G lvl last hl h y hy
    match G, hl with
    | g :: G, hl =>
      rw [rightL_cons] at h
      rcases List.mem_cons.1 hy with rfl | hy
      · omega
      · have := ih (by simpa using hl) h.2 y hy; omega
theorem rightL_length {M : List Int} : ∀ {G : List Int} {lvl last : Int}, G.length = M.length → 0 ≤ last → last ≤ 7 → rightL M G lvl last = true → last + M.length ≤ 7 := by
  induction M with
  | nil => intro G lvl last _ _ h7 _; simp; exact h7
  | cons m M ih =>
    intro G lvl last hl h0 h7 h
    match G, hl with
    | g :: G, hl =>
      rw [rightL_cons] at h
      have := ih (by simpa using hl) (by omega) h.1.2.1 h.2
      simp
      omega
theorem posL_cons (m : Int) (M : List Int) (x : Int) : posL (m :: M) x = posL M x + (if m < x then 1 else 0) := by
  unfold posL
  rw [List.countP_cons]
  simp
theorem posL_zero {M : List Int} {x : Int} (h : ∀ y, y ∈ M → x ≤ y) : posL M x = 0 := by
  unfold posL
  rw [List.countP_eq_zero]
  intro y hy
  have := h y hy
  simp
  omega
theorem insL_cons (m : Int) (M : List Int) (k : Nat) (x : Int) : insL (m :: M) (k + 1) x = m :: insL M k x := by simp [insL]
theorem insL_zero (M : List Int) (x : Int) : insL M 0 x = x :: M := by simp [insL]
theorem delL_cons (m : Int) (M : List Int) (k : Nat) : delL (m :: M) (k + 1) = m :: delL M k := by simp [delL]
theorem delL_zero (m : Int) (M : List Int) : delL (m :: M) 0 = M := by simp [delL]
theorem rightL_ins {x : Int} {lvl : Int} (hl1 : lvl ≤ 1) (hx7 : x ≤ 7) {M : List Int} : ∀ {G : List Int} {last : Int}, G.length = M.length → rightL M G lvl last = true → last + 1 ≤ x → x ∉ M → rightL (insL M (posL M x) x) (insL G (posL M x) 1) lvl last = true := by
  induction M with
  | nil =>
    intro G last hl _ hx _
    have : G = [] := List.eq_nil_of_length_eq_zero hl
    subst this
    show rightL [x] [1] lvl last = true
    rw [rightL_cons]
    exact ⟨⟨hx, hx7, hl1, by decide⟩, by simp [rightL]⟩
  | cons m M ih =>
    intro G last hl h hx hn
    match G, hl with
    | g :: G, hl =>
      have hl' : G.length = M.length := by simpa using hl
      rw [rightL_cons] at h
      rw [posL_cons]
      by_cases hm : m < x
      · rw [if_pos hm, insL_cons, insL_cons, rightL_cons]
        exact ⟨h.1, ih hl' h.2 (by omega) (fun hx' => hn (List.mem_cons_of_mem _ hx'))⟩
      · have hne : x ≠ m := fun e => hn (by rw [e]; exact List.mem_cons_self)
        have hz : posL M x = 0 := posL_zero (fun y hy => by have := rightL_mem hl' h.2 y hy; omega)
        rw [if_neg hm, hz, insL_zero, insL_zero, rightL_cons, rightL_cons]
        exact ⟨⟨hx, hx7, hl1, by decide⟩, ⟨by omega, h.1.2.1, h.1.2.2⟩, h.2⟩
theorem rightL_del {x : Int} {lvl : Int} {M : List Int} : ∀ {G : List Int} {last : Int}, G.length = M.length → rightL M G lvl last = true → x ∈ M → rightL (delL M (posL M x)) (delL G (posL M x)) lvl last = true := by
  induction M with
  | nil => intro G last _ _ hx; cases hx
  | cons m M ih =>
    intro G last hl h hx
    match G, hl with
    | g :: G, hl =>
      have hl' : G.length = M.length := by simpa using hl
      rw [rightL_cons] at h
      rw [posL_cons]
      by_cases hm : m < x
      · rw [if_pos hm, delL_cons, delL_cons, rightL_cons]
        have hx' : x ∈ M := by
          rcases List.mem_cons.1 hx with rfl | h'
          · omega
          · exact h'
        exact ⟨h.1, ih hl' h.2 hx'⟩
      · have hz : posL M x = 0 := posL_zero (fun y hy => by
          have := rightL_mem hl' h.2 y hy
          rcases List.mem_cons.1 hx with rfl | h'
          · omega
          · have := rightL_mem hl' h.2 x h'; omega)
        rw [if_neg hm, hz, delL_zero, delL_zero]
        exact rightL_weak (by omega) h.2
theorem rightL_set {lvl y : Int} (h1 : lvl ≤ y) (h2 : y ≤ 2) {M : List Int} : ∀ {G : List Int} {last : Int} (i : Nat), rightL M G lvl last = true → rightL M (G.set i y) lvl last = true := by
  induction M with
  | nil => intro G last i _; simp [rightL]
  | cons m M ih =>
    intro G last i h
    match G, i with
    | [], _ => simp [rightL]
    | g :: G, 0 =>
      rw [List.set_cons_zero, rightL_cons]
      rw [rightL_cons] at h
      exact ⟨⟨h.1.1, h.1.2.1, h1, h2⟩, h.2⟩
    | g :: G, i + 1 =>
      rw [List.set_cons_succ, rightL_cons]
      rw [rightL_cons] at h
      exact ⟨h.1, ih i h.2⟩
theorem rightL_up {lvl : Int} (h1 : 1 ≤ lvl) {M : List Int} : ∀ {G : List Int} {last : Int}, (1 : Int) ∉ G → rightL M G lvl last = true → rightL M G 2 last = true := by
  induction M with
  | nil => intro G last _ _; simp [rightL]
  | cons m M ih =>
    intro G last hn h
    match G with
    | [] => simp [rightL]
    | g :: G =>
      rw [rightL_cons] at h ⊢
      have : g ≠ 1 := fun e => hn (by rw [e]; exact List.mem_cons_self)
      exact ⟨⟨h.1.1, h.1.2.1, by omega, h.1.2.2.2⟩, ih (fun h' => hn (List.mem_cons_of_mem _ h')) h.2⟩
theorem rightL_low {lvl : Int} (h1 : 1 ≤ lvl) {M : List Int} : ∀ {G : List Int} {last : Int}, rightL M G lvl last = true → rightL M G 1 last = true := by
  induction M with
  | nil => intro G last _; simp [rightL]
  | cons m M ih =>
    intro G last h
    match G with
    | [] => simp [rightL]
    | g :: G =>
      rw [rightL_cons] at h ⊢
      exact ⟨⟨h.1.1, h.1.2.1, by omega, h.1.2.2.2⟩, ih h.2⟩
theorem insL_length (l : List Int) (i : Nat) (x : Int) : (insL l i x).length = l.length + 1 := by
  unfold insL
  rw [List.length_append, List.length_cons, List.length_take, List.length_drop]
  omega
theorem delL_length (l : List Int) (i : Nat) (h : i < l.length) : (delL l i).length = l.length - 1 := by
  unfold delL
  rw [List.length_append, List.length_take, List.length_drop]
  omega

theorem Cfg.ok_iff (c : Cfg) : c.ok = true ↔ 1 ≤ c.M.length ∧ c.M.length ≤ 7 ∧ c.G.length = c.M.length ∧ 1 ≤ c.lvl ∧ c.lvl ≤ 2 ∧ (c.fin = true → c.lvl = 2) ∧ rightL c.M c.G c.lvl 0 = true := by
  unfold Cfg.ok
  simp only [Bool.and_eq_true, decide_eq_true_eq]
  constructor
  · rintro ⟨⟨⟨⟨⟨⟨h1, h2⟩, h3⟩, h4⟩, h5⟩, h6⟩, h7⟩
    refine ⟨h1, h2, h3, h4, h5, fun hf => ?_, h7⟩
    rw [hf] at h6
    simp at h6
    omega
  · rintro ⟨h1, h2, h3, h4, h5, h6, h7⟩
    refine ⟨⟨⟨⟨⟨⟨h1, h2⟩, h3⟩, h4⟩, h5⟩, ?_⟩, h7⟩
    cases hf : c.fin with
    | false => rfl
    | true => have := h6 hf; simp; omega
theorem posL_lt {M : List Int} {x : Int} (h : x ∈ M) : posL M x < M.length := by
  unfold posL
  rcases Nat.lt_or_ge (M.countP (· < x)) M.length with h1 | h1
  · exact h1
  · have h2 : M.countP (· < x) = M.length := Nat.le_antisymm (List.countP_le_length) h1
    rw [List.countP_eq_length] at h2
    have := h2 x h
    simp at this

/-- Whatever it is told, a right config stays right; once it is final it stays so. -/
theorem apply_keeps (c : Cfg) (ok : Bool) (kind node level : Int) (hc : c.ok = true) (hn : ok = true → kind = 5 → 1 ≤ node ∧ node ≤ 7) (hv : ok = true → kind = 7 → 1 ≤ level ∧ level ≤ 2) :
    (applyOf c ok kind node level).1.ok = true ∧ (c.fin = true → (applyOf c ok kind node level).1.fin = true) := by
  have hself : c.ok = true ∧ (c.fin = true → c.fin = true) := ⟨hc, fun h => h⟩
  obtain ⟨h1, h2, h3, h4, h5, h6, h7⟩ := (Cfg.ok_iff c).1 hc
  unfold applyOf
  split
  · exact hself
  rename_i hok
  have hok' : ok = true := by cases ok <;> simp_all
  split
  · rename_i hk
    unfold addOf
    split
    · exact hself
    rename_i hcon
    split
    · exact hself
    rename_i hlv
    have hx : node ∉ c.M := by simpa using hcon
    obtain ⟨hn1, hn2⟩ := hn hok' hk
    have hr := rightL_ins (x := node) (lvl := c.lvl) (by omega) hn2 h3 h7 (by omega) hx
    have hl : (insL c.G (posL c.M node) 1).length = (insL c.M (posL c.M node) node).length := by rw [insL_length, insL_length, h3]
    have h8 := rightL_length hl (by decide) (by decide) hr
    rw [insL_length] at h8
    refine ⟨(Cfg.ok_iff _).2 ⟨?_, ?_, hl, h4, h5, h6, hr⟩, fun h => h⟩
    · show 1 ≤ (insL c.M _ node).length; rw [insL_length]; omega
    · show (insL c.M _ node).length ≤ 7; rw [insL_length]; omega
  split
  · unfold removeOf
    split
    · exact hself
    rename_i hcon
    split
    · exact hself
    rename_i hone
    have hx : node ∈ c.M := by simpa using hcon
    have hp := posL_lt hx
    have hr := rightL_del (x := node) h3 h7 hx
    refine ⟨(Cfg.ok_iff _).2 ⟨?_, ?_, ?_, h4, h5, h6, hr⟩, fun h => h⟩
    · show 1 ≤ (delL c.M _).length; rw [delL_length _ _ hp]; omega
    · show (delL c.M _).length ≤ 7; rw [delL_length _ _ hp]; omega
    · show (delL c.G _).length = (delL c.M _).length; rw [delL_length _ _ hp, delL_length _ _ (by omega), h3]
  split
  · rename_i hk
    unfold registerOf
    split
    · exact hself
    split
    · exact hself
    rename_i hlv
    obtain ⟨hv1, hv2⟩ := hv hok' hk
    refine ⟨(Cfg.ok_iff _).2 ⟨h1, h2, ?_, h4, h5, h6, rightL_set (by show c.lvl ≤ level; omega) hv2 _ h7⟩, fun h => h⟩
    show (c.G.set _ level).length = _
    rw [List.length_set, h3]
  split
  · unfold upgradeOf
    split
    · exact hself
    split
    · exact hself
    rename_i hno
    refine ⟨(Cfg.ok_iff _).2 ⟨h1, h2, h3, (by decide : (1 : Int) ≤ 2), (by decide : (2 : Int) ≤ 2), fun _ => rfl, rightL_up h4 (by simpa using hno) h7⟩, fun h => h⟩
  split
  · unfold lowerOf
    split
    · exact hself
    split
    · exact hself
    rename_i hf
    exact ⟨(Cfg.ok_iff _).2 ⟨h1, h2, h3, (by decide : (1 : Int) ≤ 1), (by decide : (1 : Int) ≤ 2), fun h => absurd h hf, rightL_low h4 h7⟩, fun h => absurd h hf⟩
  split
  · unfold finaliseOf
    split
    · exact hself
    rename_i hlv
    split
    · exact hself
    exact ⟨(Cfg.ok_iff _).2 ⟨h1, h2, h3, h4, h5, fun _ => by show c.lvl = 2; omega, h7⟩, fun _ => rfl⟩
  · exact hself
end Go.Proofs.YtnnpjjehecbljaaGreatDoor

namespace Go.Proofs.YtnnpjjehecbljaaGreatDoor
open Go.RowKit

/-- The law's config: of members; upgraded, or final, or neither. -/
def baseC (M : List Int) (up fin : Bool) : Cfg := if up = true then ⟨M, List.replicate M.length 2, 2, fin⟩ else ⟨M, List.replicate M.length 1, 1, false⟩
/-- The law's want. -/
def wantOf (M : List Int) (up fin : Bool) (kind node level : Int) : Int :=
  if kind = 5 then (if M.contains node = true then 10 else if up = true then 8 else 0)
  else if kind = 6 then (if M.contains node = false then 6 else if M.length = 1 then 10 else 0)
  else if kind = 7 then (if M.contains node = false then 6 else if up = true ∧ level = 1 then 8 else 0)
  else if kind = 8 then (if up = true then 10 else 8)
  else if kind = 9 then (if up = false then 10 else if fin = true then 8 else 0)
  else if kind = 10 then (if up = false then 8 else if fin = true then 10 else 0)
  else 0
theorem rightL_base {y z lvl : Int} (h1 : lvl ≤ z) (h2 : z ≤ 2) : ∀ {M : List Int} {last : Int}, rightL M (List.replicate M.length y) 1 last = true → rightL M (List.replicate M.length z) lvl last = true
  | [], _, _ => by simp [rightL]
  | m :: M, last, h => by
    have h' : rightL (m :: M) (y :: List.replicate M.length y) 1 last = true := h
    show rightL (m :: M) (z :: List.replicate M.length z) lvl last = true
    rw [rightL_cons] at h' ⊢
    exact ⟨⟨h'.1.1, h'.1.2.1, h1, h2⟩, rightL_base h1 h2 h'.2⟩
theorem baseC_ok {M : List Int} (h : Cfg.ok ⟨M, List.replicate M.length 1, 1, false⟩ = true) (up fin : Bool) : (baseC M up fin).ok = true := by
  cases up with
  | false => exact h
  | true =>
    obtain ⟨h1, h2, h3, h4, h5, h6, h7⟩ := (Cfg.ok_iff _).1 h
    exact (Cfg.ok_iff _).2 ⟨h1, h2, by show (List.replicate M.length (2 : Int)).length = M.length; simp, (by decide : (1 : Int) ≤ 2), (by decide : (2 : Int) ≤ 2), fun _ => rfl, rightL_base (show (2 : Int) ≤ 2 from Int.le_refl 2) (Int.le_refl 2) h7⟩
theorem apply_wants {M : List Int} (h : Cfg.ok ⟨M, List.replicate M.length 1, 1, false⟩ = true) (up fin : Bool) (kind node level : Int) (hl : kind = 7 → 1 ≤ level ∧ level ≤ 2) : (applyOf (baseC M up fin) true kind node level).2 = wantOf M up fin kind node level := by
  have hok := baseC_ok h up fin
  have h1 : 1 ≤ M.length := ((Cfg.ok_iff _).1 h).1
  have hM : (baseC M up fin).M = M := by cases up <;> rfl
  have hv : (baseC M up fin).lvl = if up = true then 2 else 1 := by cases up <;> rfl
  have hf : (baseC M up fin).fin = (up && fin) := by cases up <;> rfl
  have hg : (baseC M up fin).G.contains 1 = !up := by
    cases up with
    | false =>
      show (List.replicate M.length (1 : Int)).contains 1 = true
      rw [List.contains_iff_mem]
      exact List.mem_replicate.2 ⟨by omega, rfl⟩
    | true =>
      show (List.replicate M.length (2 : Int)).contains 1 = false
      rw [Bool.eq_false_iff]
      intro hc
      rw [List.contains_iff_mem] at hc
      exact absurd (List.mem_replicate.1 hc).2 (by decide)
  unfold applyOf wantOf
  rw [if_neg (by rw [hok]; simp)]
  by_cases k5 : kind = 5
  · rw [if_pos k5, if_pos k5]
    unfold addOf
    rw [hM, hv]
    cases M.contains node <;> cases up <;> simp
  rw [if_neg k5, if_neg k5]
  by_cases k6 : kind = 6
  · rw [if_pos k6, if_pos k6]
    unfold removeOf
    rw [hM]
    cases M.contains node
    · simp
    · by_cases h8 : M.length = 1 <;> simp [h8]
  rw [if_neg k6, if_neg k6]
  by_cases k7 : kind = 7
  · rw [if_pos k7, if_pos k7]
    obtain ⟨l1, l2⟩ := hl k7
    unfold registerOf
    rw [hM, hv]
    cases M.contains node
    · simp
    · cases up
      · have : ¬ level < 1 := by omega
        simp [this]
      · by_cases h8 : level = 1
        · subst h8; simp
        · have : ¬ level < 2 := by omega
          simp [this, h8]
  rw [if_neg k7, if_neg k7]
  by_cases k8 : kind = 8
  · rw [if_pos k8, if_pos k8]
    unfold upgradeOf
    rw [hg, hv]
    cases up <;> simp
  rw [if_neg k8, if_neg k8]
  by_cases k9 : kind = 9
  · rw [if_pos k9, if_pos k9]
    unfold lowerOf
    rw [hv, hf]
    cases up <;> cases fin <;> simp
  rw [if_neg k9, if_neg k9]
  by_cases k10 : kind = 10
  · rw [if_pos k10, if_pos k10]
    unfold finaliseOf
    rw [hv, hf]
    cases up <;> cases fin <;> simp
  rw [if_neg k10, if_neg k10]
end Go.Proofs.YtnnpjjehecbljaaGreatDoor

namespace Go.Proofs.YtnnpjjehecbljaaGreatDoor
open Go.RowKit

theorem ok_node (e : Ent) (h : e.ok = true) (hk : e.kind = 5) : 1 ≤ e.node ∧ e.node ≤ 7 := by
  unfold Ent.ok at h
  rw [hk] at h
  have h1 : fitB ⟨#[110]⟩ e.flds = true := by
    simp only [Bool.and_eq_true] at h
    exact h.2
  unfold fitB at h1
  simp only [Bool.not_eq_true', List.any_eq_false] at h1
  have h2 := h1 ⟨110, e.node != 0, nodeB e.node⟩ (by unfold Ent.flds; simp)
  have h3 : hasB ⟨#[110]⟩ 110 = true := by decide +kernel
  unfold Fld.bad at h2
  simp only [h3] at h2
  unfold nodeB at h2
  simp at h2
  omega
theorem ok_level (e : Ent) (h : e.ok = true) (hk : e.kind = 7) : 1 ≤ e.level ∧ e.level ≤ 2 := by
  unfold Ent.ok at h
  rw [hk] at h
  have h1 : fitB ⟨#[110, 108]⟩ e.flds = true := by
    simp only [Bool.and_eq_true] at h
    exact h.2
  unfold fitB at h1
  simp only [Bool.not_eq_true', List.any_eq_false] at h1
  have h2 := h1 ⟨108, e.level != 0, e.level == 1 || e.level == 2⟩ (by unfold Ent.flds; simp)
  have h3 : hasB ⟨#[110, 108]⟩ 108 = true := by decide +kernel
  unfold Fld.bad at h2
  simp only [h3] at h2
  simp at h2
  omega
theorem apply_err (c : Cfg) (ok : Bool) (kind node level : Int) (h : (applyOf c ok kind node level).2 ≠ 0) : (applyOf c ok kind node level).1 = c := by
  revert h
  unfold applyOf
  split
  · intro _; rfl
  split
  · unfold addOf
    split
    · intro _; rfl
    split
    · intro _; rfl
    · intro h; exact absurd rfl h
  split
  · unfold removeOf
    split
    · intro _; rfl
    split
    · intro _; rfl
    · intro h; exact absurd rfl h
  split
  · unfold registerOf
    split
    · intro _; rfl
    split
    · intro _; rfl
    · intro h; exact absurd rfl h
  split
  · unfold upgradeOf
    split
    · intro _; rfl
    split
    · intro _; rfl
    · intro h; exact absurd rfl h
  split
  · unfold lowerOf
    split
    · intro _; rfl
    split
    · intro _; rfl
    · intro h; exact absurd rfl h
  split
  · unfold finaliseOf
    split
    · intro _; rfl
    split
    · intro _; rfl
    · intro h; exact absurd rfl h
  · intro _; rfl
/-- A config told an entry. -/
def tellC (c : Cfg) (e : Ent) : Cfg × Int := applyOf c e.ok e.kind e.node e.level
theorem tell_keeps (c : Cfg) (e : Ent) (hc : c.ok = true) : (tellC c e).1.ok = true ∧ (c.fin = true → (tellC c e).1.fin = true ∧ (tellC c e).1.lvl = 2) ∧ ((tellC c e).2 ≠ 0 → (tellC c e).1 = c) := by
  have h := apply_keeps c e.ok e.kind e.node e.level hc (fun h1 h2 => ok_node e h1 h2) (fun h1 h2 => ok_level e h1 h2)
  exact ⟨h.1, fun hf => ⟨h.2 hf, ((Cfg.ok_iff _).1 h.1).2.2.2.2.2.1 (h.2 hf)⟩, apply_err c e.ok e.kind e.node e.level⟩
theorem rightL_ge {lvl : Int} : ∀ {M G : List Int} {last : Int}, G.length = M.length → rightL M G lvl last = true → ∀ k (hk : k < G.length), lvl ≤ G[k]
  | [], [], _, _, _, k, hk => absurd hk (Nat.not_lt_zero _)
  | m :: M, g :: G, last, h, hr, k, hk => by
    rw [rightL_cons] at hr
    cases k with
    | zero => exact hr.1.2.2.1
    | succ k => exact rightL_ge (by simpa using h) hr.2 k (by simpa using hk)
theorem ok_ge (c : Cfg) (hc : c.ok = true) (k : Nat) (hk : k < c.G.length) : c.lvl ≤ c.G[k] := by
  obtain ⟨h1, h2, h3, h4, h5, h6, h7⟩ := (Cfg.ok_iff c).1 hc
  exact rightL_ge h3 h7 k hk
end Go.Proofs.YtnnpjjehecbljaaGreatDoor

namespace Go.Proofs.YtnnpjjehecbljaaGreatDoor
open Go.RowKit

/-- A slice of ints from the head of a block that is its own: of these elements. -/
def Iv (w : World) (g cap : Nat) (l : List Int) : Prop :=
  ∃ cur, Blk w g cur 3 ∧ l.length ≤ cap ∧ cap ≤ maxLen ∧ cur.size = cap ∧ cur.toList.take l.length = l.map (Value.int .i64)
/-- The slice's value. -/
def ivV (g n cap : Nat) : Value := .slice (some ⟨g, 0, none⟩) n cap
theorem Iv.lt {w : World} {g cap : Nat} {l : List Int} (h : Iv w g cap l) : g < w.heap.size := by
  obtain ⟨cur, h1, -⟩ := h
  exact h1.lt
theorem Iv.le {w : World} {g cap : Nat} {l : List Int} (h : Iv w g cap l) : l.length ≤ cap ∧ cap ≤ maxLen := by
  obtain ⟨cur, -, h2, h3, -⟩ := h
  exact ⟨h2, h3⟩
theorem Iv.cell {w : World} {g cap : Nat} {l : List Int} (h : Iv w g cap l) : ∀ j, j < l.length → w.cell? ⟨g, 0 + j, none⟩ = some (.int .i64 (l.getD j 0)) := by
  obtain ⟨cur, h1, h2, h3, h4, h5⟩ := h
  intro j hj
  rw [Nat.zero_add, h1.cell]
  have h6 : (cur.toList.take l.length)[j]? = (l.map (Value.int .i64))[j]? := by rw [h5]
  rw [List.getElem?_take_of_lt hj] at h6
  rw [← Array.getElem?_toList, h6]
  simp [List.getD, List.getElem?_eq_getElem hj]
theorem Iv.froz {w : World} {g cap : Nat} {l : List Int} (h : Iv w g cap l) (j : Nat) : w.frozen? ⟨g, j, none⟩ = false := by
  obtain ⟨cur, h1, -⟩ := h
  exact h1.froz j
theorem Iv.owns {w : World} {B g cap : Nat} {l : List Int} (h : Iv w g cap l) (hB : B ≤ g) : w.ownsRow B 3 1 (ivV g l.length cap) l.length (l.map (Value.int .i64)) := by
  obtain ⟨cur, h1, h2, h3, h4, h5⟩ := h
  exact ⟨by simp, Or.inr ⟨g, cap, cur, rfl, hB, h1, h2, h3, by omega, by rw [Nat.mul_one]; exact h5⟩⟩
theorem Iv.of_owns {w : World} {B n : Nat} {v : Value} {l : List Int} (h : w.ownsRow B 3 1 v n (l.map (Value.int .i64))) (hn : v ≠ .slice none 0 0) : ∃ g cap, v = ivV g l.length cap ∧ B ≤ g ∧ n = l.length ∧ Iv w g cap l := by
  obtain ⟨h0, h | ⟨g, cap, cur, rfl, hB, h1, h2, h3, h4, h5⟩⟩ := h
  · exact absurd h.1 hn
  · have hl : n = l.length := by simp at h0; omega
    subst hl
    exact ⟨g, cap, rfl, hB, rfl, cur, h1, h2, h3, by omega, by rw [Nat.mul_one] at h5; exact h5⟩
theorem Iv.fr {S : List Nat} {w w' : World} {g cap : Nat} {l : List Int} (h : Iv w g cap l) (hf : Fr S w w') (hn : g ∉ S) : Iv w' g cap l := by
  obtain ⟨cur, h1, h2⟩ := h
  exact ⟨cur, h1.fr hf hn, h2⟩
theorem Iv.alloc {w : World} {g cap : Nat} {l : List Int} (h : Iv w g cap l) (x : Obj) : Iv (w.alloc x) g cap l := by
  obtain ⟨cur, h1, h2⟩ := h
  exact ⟨cur, h1.alloc x, h2⟩
theorem Iv.drewN {w : World} {g cap : Nat} {l : List Int} (h : Iv w g cap l) (n : Nat) : Iv (w.drewN n) g cap l := h
theorem Iv.drew {w : World} {g cap : Nat} {l : List Int} (h : Iv w g cap l) : Iv w.drew g cap l := h
theorem Iv.far {w : World} {g cap : Nat} {l : List Int} (h : Iv w g cap l) {p : Addr} (hp : g ≠ p.block) (v : Value) : Iv (w.setCell p v) g cap l := by
  obtain ⟨cur, h1, h2⟩ := h
  exact ⟨cur, h1.far hp v, h2⟩
theorem Iv.set {w : World} {g cap : Nat} {l : List Int} (h : Iv w g cap l) (i : Nat) (x : Int) : Iv (w.setCell ⟨g, i, none⟩ (.int .i64 x)) g cap (l.set i x) := by
  obtain ⟨cur, h1, h2, h3, h4, h5⟩ := h
  refine ⟨_, h1.set i _, by rw [List.length_set]; exact h2, h3, by rw [Array.size_setIfInBounds]; exact h4, ?_⟩
  rw [Array.toList_setIfInBounds, List.length_set, List.map_set, ← h5, List.take_set]
theorem Iv.take {w : World} {g cap : Nat} {l : List Int} (h : Iv w g cap l) (n : Nat) : Iv w g cap (l.take n) := by
  obtain ⟨cur, h1, h2, h3, h4, h5⟩ := h
  refine ⟨cur, h1, by rw [List.length_take]; omega, h3, h4, ?_⟩
  rw [List.map_take, ← h5, List.take_take, List.length_take]

/-- A config in memory: two slices of two blocks of their own. -/
def Cf (w : World) (gm cm gh ch : Nat) (c : Cfg) : Prop := Iv w gm cm c.M ∧ Iv w gh ch c.G ∧ gm ≠ gh
/-- The config's cells. -/
def cfC (gm cm gh ch : Nat) (c : Cfg) : Array Value := #[ivV gm c.M.length cm, ivV gh c.G.length ch, .int .i64 c.lvl, .bool c.fin]
theorem Cf.fr {S : List Nat} {w w' : World} {gm cm gh ch : Nat} {c : Cfg} (h : Cf w gm cm gh ch c) (hf : Fr S w w') (h1 : gm ∉ S) (h2 : gh ∉ S) : Cf w' gm cm gh ch c := ⟨h.1.fr hf h1, h.2.1.fr hf h2, h.2.2⟩
end Go.Proofs.YtnnpjjehecbljaaGreatDoor

namespace Go.Proofs.YtnnpjjehecbljaaGreatDoor
open Go.RowKit

theorem sClone (g cap : Nat) (l : List Int) (w : World) (h : Iv w g cap l) (hl : l.length ≤ 4096) (n : Nat) (hn : n = l.length) :
    Calls Tryz.prog 53 #[.slice (some ⟨g, 0, none⟩) n cap] w fun e w' => ∃ g' cap', e = .returned (.slice (some ⟨g', 0, none⟩) n cap') ∧ w.heap.size ≤ g' ∧ Iv w' g' cap' l ∧ Fr [] w w' := by
  subst hn
  refine (Tryz.slices_Clone_int g 0 l.length cap l w (Nat.le_refl _) (by omega) h.cell).mono ?_
  rintro e w' ⟨v', rfl, ho, hn, hb⟩
  rw [List.take_length] at ho
  obtain ⟨g', cap', rfl, h1, h2, h3⟩ := Iv.of_owns ho hn
  exact ⟨g', cap', rfl, h1, h3, Fr.ofBelow hb⟩

theorem clone_end {u : World} {bx : Nat} {va vb vl vf z0 z1 z2 z3 : Value} {t : TypeId} (hR : Blk u (bx + 1) #[z0, z1, z2, z3] t) :
    Blk ((((((u.setCell ⟨bx, 0, none⟩ va).setCell ⟨bx, 1, none⟩ vb).setCell ⟨bx + 1, 0, none⟩ va).setCell ⟨bx + 1, 1, none⟩ vb).setCell ⟨bx + 1, 2, none⟩ vl).setCell ⟨bx + 1, 3, none⟩ vf) (bx + 1) #[va, vb, vl, vf] t ∧
    Fr [bx, bx + 1] u ((((((u.setCell ⟨bx, 0, none⟩ va).setCell ⟨bx, 1, none⟩ vb).setCell ⟨bx + 1, 0, none⟩ va).setCell ⟨bx + 1, 1, none⟩ vb).setCell ⟨bx + 1, 2, none⟩ vl).setCell ⟨bx + 1, 3, none⟩ vf) := by
  constructor
  · exact ((((((hR.far (p := ⟨bx, 0, none⟩) (by simp) va).far (p := ⟨bx, 1, none⟩) (by simp) vb).set 0 va).set 1 vb).set 2 vl).set 3 vf)
  · exact (((((((Fr.refl _ u).setCell (p := ⟨bx, 0, none⟩) (by simp) va).setCell (p := ⟨bx, 1, none⟩) (by simp) vb).setCell (p := ⟨bx + 1, 0, none⟩) (by simp) va).setCell (p := ⟨bx + 1, 1, none⟩) (by simp) vb).setCell (p := ⟨bx + 1, 2, none⟩) (by simp) vl).setCell (p := ⟨bx + 1, 3, none⟩) (by simp) vf)

set_option maxHeartbeats 4000000 in
set_option maxRecDepth 100000 in
theorem lClone (gm cm gh ch : Nat) (c : Cfg) (w : World) (h : Cf w gm cm gh ch c) (h1 : c.M.length ≤ 4096) (h2 : c.G.length ≤ 4096) :
    Calls Tryz.prog 25 #[.agg (cfC gm cm gh ch c)] w fun e w' => ∃ gm' cm' gh' ch', e = .returned (.agg (cfC gm' cm' gh' ch' c)) ∧ Cf w' gm' cm' gh' ch' c ∧ w.heap.size ≤ gm' ∧ w.heap.size ≤ gh' ∧ Fr [] w w' := by
  have HM := Lib.hid h.1
  have HG := Lib.hid h.2.1
  clear h
  unfold cfC ivV Cf
  generalize hn : c.M.length = n at *
  generalize hk : c.G.length = k at *
  have HN := Lib.hid hn
  have HK := Lib.hid hk
  clear hn hk
  generalize c.M = M at *
  generalize c.G = G at *
  generalize c.lvl = lv at *
  generalize c.fin = fin at *
  have B0 := Blk.new w #[.slice (some ⟨gm, 0, none⟩) n cm, .slice (some ⟨gh, 0, none⟩) k ch, .int .i64 lv, .bool fin] 30
  have B1 := Lib.hid (B0.alloc (.cells #[.slice none 0 0, .slice none 0 0, .int .i64 0, .bool false] 30))
  have R1 := Blk.new (w.alloc (.cells #[.slice (some ⟨gm, 0, none⟩) n cm, .slice (some ⟨gh, 0, none⟩) k ch, .int .i64 lv, .bool fin] 30)) #[.slice none 0 0, .slice none 0 0, .int .i64 0, .bool false] 30
  rw [show (w.alloc (.cells #[.slice (some ⟨gm, 0, none⟩) n cm, .slice (some ⟨gh, 0, none⟩) k ch, .int .i64 lv, .bool fin] 30)).heap.size = w.heap.size + 1 by simp] at R1
  have HR1 := Lib.hid R1
  have HF := Lib.hid (((Fr.refl [] w).alloc (.cells #[.slice (some ⟨gm, 0, none⟩) n cm, .slice (some ⟨gh, 0, none⟩) k ch, .int .i64 lv, .bool fin] 30)).alloc (.cells #[.slice none 0 0, .slice none 0 0, .int .i64 0, .bool false] 30))
  have HM1 := Lib.hid ((HM.out.alloc (.cells #[.slice (some ⟨gm, 0, none⟩) n cm, .slice (some ⟨gh, 0, none⟩) k ch, .int .i64 lv, .bool fin] 30)).alloc (.cells #[.slice none 0 0, .slice none 0 0, .int .i64 0, .bool false] 30))
  have HG1 := Lib.hid ((HG.out.alloc (.cells #[.slice (some ⟨gm, 0, none⟩) n cm, .slice (some ⟨gh, 0, none⟩) k ch, .int .i64 lv, .bool fin] 30)).alloc (.cells #[.slice none 0 0, .slice none 0 0, .int .i64 0, .bool false] 30))
  have HL := Lib.hid (show gm < w.heap.size ∧ gh < w.heap.size from ⟨HM.out.lt, HG.out.lt⟩)
  clear B0 R1
  go_enter Tryz.func25, Tryz.ntmps25
  go_upto_region 1 with fail
  generalize hw2 : ((w.alloc (.cells #[.slice (some ⟨gm, 0, none⟩) n cm, .slice (some ⟨gh, 0, none⟩) k ch, .int .i64 lv, .bool fin] 30)).alloc (.cells #[.slice none 0 0, .slice none 0 0, .int .i64 0, .bool false] 30)) = w2 at *
  clear hw2 HM HG
  generalize hbx : w.heap.size = bx at *
  have HBX := Lib.hid hbx
  clear hbx
  have c0 : w2.cell? ⟨bx, 0, none⟩ = some (.slice (some ⟨gm, 0, none⟩) n cm) := B1.out.cellAt (i := 0) rfl
  have c1 : w2.cell? ⟨bx, 1, none⟩ = some (.slice (some ⟨gh, 0, none⟩) k ch) := B1.out.cellAt (i := 1) rfl
  have z0 : ∀ j, w2.frozen? ⟨bx, j, none⟩ = false := B1.out.froz
  go_region_with (first
    | (go_at_call 53; with_reducible refine (sClone gm cm M _ (by first | exact HM1.out.drew | exact HM1.out.fr FB.out (by simp)) (by rw [HN.out]; exact h1) n HN.out.symm).mono ?_; rintro e wa ⟨ga, ca, rfl, hga, ia, fa⟩; have GA := Lib.hid hga; have IA := Lib.hid ia; have FA := Lib.hid (show Fr [] w2 wa from by first | exact (Fr.refl [] w2).drew.trans0 fa | exact FB.out.trans0 fa); have a0 : wa.cell? ⟨bx, 0, none⟩ = some (.slice (some ⟨gm, 0, none⟩) n cm) := (B1.out.fr0 FA.out).cellAt (i := 0) rfl; have a1 : wa.cell? ⟨bx, 1, none⟩ = some (.slice (some ⟨gh, 0, none⟩) k ch) := (B1.out.fr0 FA.out).cellAt (i := 1) rfl; have a2 : wa.cell? ⟨bx, 2, none⟩ = some (.int .i64 lv) := (B1.out.fr0 FA.out).cellAt (i := 2) rfl; have a3 : wa.cell? ⟨bx, 3, none⟩ = some (.bool fin) := (B1.out.fr0 FA.out).cellAt (i := 3) rfl; have ra := HR1.out.fr0 FA.out; have ra0 := ra.cellAt (i := 0) (v := .slice none 0 0) rfl; have ra1 := ra.cellAt (i := 1) (v := .slice none 0 0) rfl; have ra2 := ra.cellAt (i := 2) (v := .int .i64 0) rfl; have ra3 := ra.cellAt (i := 3) (v := .bool false) rfl; have raz := ra.froz; clear ra; have az : ∀ j, wa.frozen? ⟨bx, j, none⟩ = false := (B1.out.fr0 FA.out).froz; clear hga ia fa)
    | (go_at_call 53; with_reducible refine (sClone gh ch G _ (by first | exact HG1.out.drew | exact HG1.out.fr FA.out (by simp)) (by rw [HK.out]; exact h2) k HK.out.symm).mono ?_; rintro e wb ⟨gb, cb, rfl, hgb, ib, fb⟩; have GB := Lib.hid hgb; have IB := Lib.hid ib; have FB := Lib.hid (show Fr [] w2 wb from by first | exact (Fr.refl [] w2).drew.trans0 fb | exact FA.out.trans0 fb); have FC := Lib.hid fb; have b0 : wb.cell? ⟨bx, 0, none⟩ = some (.slice (some ⟨gm, 0, none⟩) n cm) := (B1.out.fr0 FB.out).cellAt (i := 0) rfl; have b1 : wb.cell? ⟨bx, 1, none⟩ = some (.slice (some ⟨gh, 0, none⟩) k ch) := (B1.out.fr0 FB.out).cellAt (i := 1) rfl; have b2 : wb.cell? ⟨bx, 2, none⟩ = some (.int .i64 lv) := (B1.out.fr0 FB.out).cellAt (i := 2) rfl; have b3 : wb.cell? ⟨bx, 3, none⟩ = some (.bool fin) := (B1.out.fr0 FB.out).cellAt (i := 3) rfl; have rb := HR1.out.fr0 FB.out; have rb0 := rb.cellAt (i := 0) (v := .slice none 0 0) rfl; have rb1 := rb.cellAt (i := 1) (v := .slice none 0 0) rfl; have rb2 := rb.cellAt (i := 2) (v := .int .i64 0) rfl; have rb3 := rb.cellAt (i := 3) (v := .bool false) rfl; have rbz := rb.froz; clear rb; have bz : ∀ j, wb.frozen? ⟨bx, j, none⟩ = false := (B1.out.fr0 FB.out).froz; clear hgb ib fb))
  all_goals
    go_wp2_with fail
    obtain ⟨hX, hFX⟩ := clone_end (va := .slice (some ⟨ga, 0, none⟩) n ca) (vb := .slice (some ⟨gb, 0, none⟩) k cb) (vl := .int .i64 lv) (vf := .bool fin) (HR1.out.fr0 FB.out)
    generalize ((((((wb.setCell ⟨bx, 0, none⟩ (.slice (some ⟨ga, 0, none⟩) n ca)).setCell ⟨bx, 1, none⟩ (.slice (some ⟨gb, 0, none⟩) k cb)).setCell ⟨bx + 1, 0, none⟩ (.slice (some ⟨ga, 0, none⟩) n ca)).setCell ⟨bx + 1, 1, none⟩ (.slice (some ⟨gb, 0, none⟩) k cb)).setCell ⟨bx + 1, 2, none⟩ (.int .i64 lv)).setCell ⟨bx + 1, 3, none⟩ (.bool fin)) = X at *
    have y0 := hX.cellAt (i := 0) (v := .slice (some ⟨ga, 0, none⟩) n ca) rfl
    have y1 := hX.cellAt (i := 1) (v := .slice (some ⟨gb, 0, none⟩) k cb) rfl
    have y2 := hX.cellAt (i := 2) (v := .int .i64 lv) rfl
    have y3 := hX.cellAt (i := 3) (v := .bool fin) rfl
    have hr := HR1.out.lt
    have hg1 : w2.heap.size ≤ ga := by have := GA.out; first | exact this | (have h9 := FB.out.size; have h8 : wb.heap.size ≤ ga := this; omega)
    have hg2 : wa.heap.size ≤ gb := GB.out
    have hs1 := FA.out.size
    have hs3 := HF.out.size
    have hi1 := IA.out.lt
    have hi2 := IB.out.lt
    have hb0 := HBX.out
    refine bodyPost_ret (v := .agg #[.slice (some ⟨ga, 0, none⟩) n ca, .slice (some ⟨gb, 0, none⟩) k cb, .int .i64 lv, .bool fin]) (by simp [results, Tryz.results25, go_sem, y0, y1, y2, y3]) rfl ?_
    refine ⟨ga, ca, gb, cb, rfl, ⟨(IA.out.fr FC.out (by simp)).fr hFX (by simp; omega), IB.out.fr hFX (by simp; omega), by omega⟩, by omega, by omega, ?_⟩
    exact (HF.out.trans0 FB.out).trans hFX (fun x hx => by simp at hx; right; omega)
end Go.Proofs.YtnnpjjehecbljaaGreatDoor

namespace Go.Proofs.YtnnpjjehecbljaaGreatDoor
open Go.RowKit

/-- A config of its own, behind a pointer: its blocks lie from B on. -/
def LM (B : Nat) (w : World) (dx : Nat) (c : Cfg) : Prop :=
  ∃ gm cm gh ch, Blk w dx (cfC gm cm gh ch c) 30 ∧ Iv w gm cm c.M ∧ Iv w gh ch c.G ∧ gm ≠ gh ∧ B ≤ gm ∧ B ≤ gh ∧ gm ≠ dx ∧ gh ≠ dx ∧ B ≤ dx
theorem Fr.toBelow {S : List Nat} {B : Nat} {w w' : World} (h : Fr S w w') (hB : B ≤ w.heap.size) (hS : ∀ x, x ∈ S → B ≤ x) : Below B w w' :=
  ⟨h.os, h.tape, h.output, h.size, fun k hk => h.block k (by omega) (fun hx => by have := hS k hx; omega)⟩
/-- What a change of a config answers. -/
def Told (B dx : Nat) (w : World) (a : Cfg × Int) (r : Ending) (w' : World) : Prop :=
  r = .returned (.int .i64 a.2) ∧ (a.2 = 0 → LM B w' dx a.1) ∧ Below B w w'

theorem Told.no {P : Prop} {a : Cfg} {k : Int} (h : (a, k).2 = 0) (hk : k ≠ 0) : P := absurd h hk

set_option maxHeartbeats 4000000 in
set_option maxRecDepth 100000 in
theorem lLower (B dx : Nat) (c : Cfg) (e : Ent) (w : World) (h : LM B w dx c) :
    Calls Tryz.prog 30 #[.pointer (some ⟨dx, 0, none⟩), .agg e.cells] w fun r w' => Told B dx w (lowerOf c) r w' := by
  obtain ⟨gm, cm, gh, ch, hB, hM, hG, hne, b1, b2, n1, n2, b3⟩ := h
  have hF := (Fr.refl [dx] w).alloc (.cells e.cells 24)
  have hlt := hB.lt
  have HA := Lib.hid (And.intro hM (And.intro hG (And.intro hB hF)))
  clear hF hM hG
  unfold Ent.cells at *
  unfold cfC ivV at *
  have c2 : w.cell? ⟨dx, 2, none⟩ = some (.int .i64 c.lvl) := hB.cellAt (i := 2) rfl
  have c3 : w.cell? ⟨dx, 3, none⟩ = some (.bool c.fin) := hB.cellAt (i := 3) rfl
  have z2 := hB.froz 2
  clear hB
  unfold lowerOf
  obtain ⟨M, G, lv, fin⟩ := c
  simp only at *
  by_cases h1 : lv = 1
  · rw [if_pos h1]
    subst h1
    go_enter Tryz.func30, Tryz.ntmps30
    go_wp2_with fail
    go_ret
    exact ⟨rfl, fun h => Told.no h (by decide), HA.out.2.2.2.toBelow (by omega) (by intro x hx; simp at hx; omega)⟩
  · rw [if_neg h1]
    cases fin with
    | true =>
      rw [if_pos rfl]
      go_enter Tryz.func30, Tryz.ntmps30
      go_wp2_with fail
      go_ret
      exact ⟨rfl, fun h => Told.no h (by decide), HA.out.2.2.2.toBelow (by omega) (by intro x hx; simp at hx; omega)⟩
    | false =>
      rw [if_neg (by decide)]
      go_enter Tryz.func30, Tryz.ntmps30
      go_wp2_with fail
      go_ret
      obtain ⟨hM1, hG1, hB1, hF⟩ := HA.out
      exact ⟨rfl, fun _ => ⟨gm, cm, gh, ch, (hB1.set 2 _).alloc _, (hM1.far n1 _).alloc _, (hG1.far n2 _).alloc _, hne, b1, b2, n1, n2, b3⟩, (((Fr.refl [dx] w).setCell (p := ⟨dx, 2, none⟩) (by simp) _).alloc _).toBelow (by omega) (by intro x hx; simp at hx; omega)⟩
set_option maxHeartbeats 4000000 in
set_option maxRecDepth 100000 in
theorem lFinal (B dx : Nat) (c : Cfg) (e : Ent) (w : World) (h : LM B w dx c) :
    Calls Tryz.prog 31 #[.pointer (some ⟨dx, 0, none⟩), .agg e.cells] w fun r w' => Told B dx w (finaliseOf c) r w' := by
  obtain ⟨gm, cm, gh, ch, hB, hM, hG, hne, b1, b2, n1, n2, b3⟩ := h
  have hF := (Fr.refl [dx] w).alloc (.cells e.cells 24)
  have hlt := hB.lt
  have HA := Lib.hid (And.intro hM (And.intro hG (And.intro hB hF)))
  clear hF hM hG
  unfold Ent.cells at *
  unfold cfC ivV at *
  have c2 : w.cell? ⟨dx, 2, none⟩ = some (.int .i64 c.lvl) := hB.cellAt (i := 2) rfl
  have c3 : w.cell? ⟨dx, 3, none⟩ = some (.bool c.fin) := hB.cellAt (i := 3) rfl
  have z2 := hB.froz 3
  clear hB
  unfold finaliseOf
  obtain ⟨M, G, lv, fin⟩ := c
  simp only at *
  by_cases h1 : lv = 1
  · rw [if_pos h1]
    subst h1
    go_enter Tryz.func31, Tryz.ntmps31
    go_wp2_with fail
    go_ret
    exact ⟨rfl, fun h => Told.no h (by decide), HA.out.2.2.2.toBelow (by omega) (by intro x hx; simp at hx; omega)⟩
  · rw [if_neg h1]
    cases fin with
    | true =>
      rw [if_pos rfl]
      go_enter Tryz.func31, Tryz.ntmps31
      go_wp2_with fail
      go_ret
      exact ⟨rfl, fun h => Told.no h (by decide), HA.out.2.2.2.toBelow (by omega) (by intro x hx; simp at hx; omega)⟩
    | false =>
      rw [if_neg (by decide)]
      go_enter Tryz.func31, Tryz.ntmps31
      go_wp2_with fail
      go_ret
      obtain ⟨hM1, hG1, hB1, hF⟩ := HA.out
      exact ⟨rfl, fun _ => ⟨gm, cm, gh, ch, (hB1.set 3 _).alloc _, (hM1.far n1 _).alloc _, (hG1.far n2 _).alloc _, hne, b1, b2, n1, n2, b3⟩, (((Fr.refl [dx] w).setCell (p := ⟨dx, 3, none⟩) (by simp) _).alloc _).toBelow (by omega) (by intro x hx; simp at hx; omega)⟩
theorem sContains (g cap : Nat) (l : List Int) (x : Int) (w : World) (h : Iv w g cap l) (hl : l.length ≤ 4096) (n : Nat) (hn : n = l.length) :
    Calls Tryz.prog 23 #[.slice (some ⟨g, 0, none⟩) n cap, .int .i64 x] w fun e w' => e = .returned (.bool (l.contains x)) ∧ w' = w := by
  subst hn
  refine (Tryz.slices_Contains_int g 0 l.length cap l x w (Nat.le_refl _) (by omega) h.cell).mono ?_
  rw [List.take_length]
  exact fun _ _ h => h

set_option maxHeartbeats 4000000 in
set_option maxRecDepth 100000 in
theorem lUpgrade (B dx : Nat) (c : Cfg) (e : Ent) (w : World) (h : LM B w dx c) (h4 : c.G.length ≤ 4096) :
    Calls Tryz.prog 29 #[.pointer (some ⟨dx, 0, none⟩), .agg e.cells] w fun r w' => Told B dx w (upgradeOf c) r w' := by
  obtain ⟨gm, cm, gh, ch, hB, hM, hG, hne, b1, b2, n1, n2, b3⟩ := h
  have hF := (Fr.refl [dx] w).alloc (.cells e.cells 24)
  have hlt := hB.lt
  have HA := Lib.hid (And.intro hM (And.intro hG (And.intro hB hF)))
  have HC := Lib.hid (sContains gh ch c.G 1 (w.alloc (.cells e.cells 24)) (hG.alloc _) h4 _ rfl)
  clear hF hM hG
  unfold Ent.cells at *
  unfold cfC ivV at *
  have c1 : w.cell? ⟨dx, 1, none⟩ = some (.slice (some ⟨gh, 0, none⟩) c.G.length ch) := hB.cellAt (i := 1) rfl
  have c2 : w.cell? ⟨dx, 2, none⟩ = some (.int .i64 c.lvl) := hB.cellAt (i := 2) rfl
  have z2 := hB.froz 2
  clear hB
  unfold upgradeOf
  obtain ⟨M, G, lv, fin⟩ := c
  simp only at *
  by_cases h1 : lv = 2
  · rw [if_pos h1]
    subst h1
    go_enter Tryz.func29, Tryz.ntmps29
    go_wp2_with fail
    go_ret
    exact ⟨rfl, fun h => Told.no h (by decide), HA.out.2.2.2.toBelow (by omega) (by intro x hx; simp at hx; omega)⟩
  · rw [if_neg h1]
    cases hc : G.contains 1 with
    | true =>
      rw [if_pos rfl]
      rw [hc] at HC
      go_enter Tryz.func29, Tryz.ntmps29
      go_wp2_with (go_at_call 23; refine HC.out.mono ?_; rintro r w1 ⟨rfl, rfl⟩)
      go_ret
      exact ⟨rfl, fun h => Told.no h (by decide), HA.out.2.2.2.toBelow (by omega) (by intro x hx; simp at hx; omega)⟩
    | false =>
      rw [if_neg (by decide)]
      rw [hc] at HC
      go_enter Tryz.func29, Tryz.ntmps29
      go_wp2_with (go_at_call 23; refine HC.out.mono ?_; rintro r w1 ⟨rfl, rfl⟩)
      go_ret
      obtain ⟨hM1, hG1, hB1, hF⟩ := HA.out
      exact ⟨rfl, fun _ => ⟨gm, cm, gh, ch, (hB1.set 2 _).alloc _, (hM1.far n1 _).alloc _, (hG1.far n2 _).alloc _, hne, b1, b2, n1, n2, b3⟩, (((Fr.refl [dx] w).setCell (p := ⟨dx, 2, none⟩) (by simp) _).alloc _).toBelow (by omega) (by intro x hx; simp at hx; omega)⟩

end Go.Proofs.YtnnpjjehecbljaaGreatDoor

namespace Go.Proofs.YtnnpjjehecbljaaGreatDoor
open Go.RowKit

theorem lIn (n lo hi : Int) (h1 : lo ≤ n) (h2 : n ≤ hi) (w : World) : Calls Tryz.prog 32 #[.int .i64 n, .int .i64 lo, .int .i64 hi] w fun e w' => e = .returned (.bool true) ∧ w' = w := by
  go_enter Tryz.func32, Tryz.ntmps32
  go_wp2_with fail
  go_ret
  exact ⟨rfl, rfl⟩
theorem lInNo (n lo hi : Int) (h1 : n < lo) (w : World) : Calls Tryz.prog 32 #[.int .i64 n, .int .i64 lo, .int .i64 hi] w fun e w' => e = .returned (.bool false) ∧ w' = w := by
  have h2 : ¬ lo ≤ n := by omega
  go_enter Tryz.func32, Tryz.ntmps32
  go_wp2_with fail
  go_ret
  exact ⟨rfl, rfl⟩

/-- What the k-th round of Right asks. -/
theorem rightL_at {lvl : Int} : ∀ {M G : List Int} {last : Int}, 0 ≤ last → G.length = M.length → rightL M G lvl last = true → ∀ k, k < M.length → 0 ≤ (if k = 0 then last else M.getD (k - 1) 0) ∧ (if k = 0 then last else M.getD (k - 1) 0) + 1 ≤ M.getD k 0 ∧ M.getD k 0 ≤ 7 ∧ lvl ≤ G.getD k 0 ∧ G.getD k 0 ≤ 2
  | [], [], _, _, _, _, k, hk => absurd hk (Nat.not_lt_zero _)
  | m :: M, g :: G, last, h0, h, hr, k, hk => by
    rw [rightL_cons] at hr
    cases k with
    | zero => exact ⟨h0, hr.1⟩
    | succ k =>
      have := rightL_at (last := m) (by omega) (by simpa using h) hr.2 k (by simpa using hk)
      cases k with
      | zero => exact this
      | succ k => exact this

set_option maxHeartbeats 4000000 in
set_option maxRecDepth 100000 in
theorem lRight (gm cm gh ch : Nat) (c : Cfg) (w : World) (h : Cf w gm cm gh ch c) (hc : c.ok = true) :
    Calls Tryz.prog 12 #[.agg (cfC gm cm gh ch c)] w fun e w' => e = .returned (.bool true) ∧ Fr [] w w' := by
  obtain ⟨h1, h2, h3, h4, h5, h6, h7⟩ := (Cfg.ok_iff c).1 hc
  have R := Lib.hid (rightL_at (Int.le_refl 0) h3 h7)
  have HM := Lib.hid h.1
  have HG := Lib.hid h.2.1
  have H6 := Lib.hid h6
  clear hc h7 h h6
  unfold cfC ivV
  have hlm := HM.out.lt
  have hlg := HG.out.lt
  rw [h3]
  have hgl := h3
  have HB := Lib.hid (Blk.new w #[.slice (some ⟨gm, 0, none⟩) c.M.length cm, .slice (some ⟨gh, 0, none⟩) c.M.length ch, .int .i64 c.lvl, .bool c.fin] 30)
  generalize hn : c.M.length = n at *
  have HN := Lib.hid hn
  clear hn h3
  generalize c.lvl = lv at *
  have HF := Lib.hid ((Fr.refl [] w).alloc (.cells #[.slice (some ⟨gm, 0, none⟩) n cm, .slice (some ⟨gh, 0, none⟩) n ch, .int .i64 lv, .bool c.fin] 30))
  have HM1 := Lib.hid (HM.out.alloc (.cells #[.slice (some ⟨gm, 0, none⟩) n cm, .slice (some ⟨gh, 0, none⟩) n ch, .int .i64 lv, .bool c.fin] 30))
  have HG1 := Lib.hid (HG.out.alloc (.cells #[.slice (some ⟨gm, 0, none⟩) n cm, .slice (some ⟨gh, 0, none⟩) n ch, .int .i64 lv, .bool c.fin] 30))
  have HGL : Hid (c.G.length = n) := hgl
  clear hgl
  generalize c.M = M at *
  generalize c.G = G at *
  generalize c.fin = fin at *
  cases fin
  all_goals
    go_enter Tryz.func12, Tryz.ntmps12
    try (have hlv : ¬ lv < 2 := by have := H6.out rfl; omega)
    go_wp2_with (first
      | (go_at_call 32; refine (lIn _ _ _ (by omega) (by omega) _).mono ?_; rintro e w' ⟨rfl, rfl⟩))
    generalize w.heap.size = bx at *
    go_loopw [3, 38] (fun la i wr => ∃ k : Nat, k ≤ n ∧ i = .int .i64 k ∧ la = .int .i64 (if k = 0 then 0 else M.getD (k - 1) 0) ∧ Hid (Blk wr bx _ 30) ∧ Hid (Iv wr gm cm M) ∧ Hid (Iv wr gh ch G) ∧ Hid (Fr [] w wr)) (fun _ i _ => n - (intOf i).toNat)
    case atStart => exact ⟨0, Nat.zero_le _, rfl, rfl, HB, HM1, HG1, HF⟩
    case round =>
      obtain ⟨k, hk, rfl, rfl, B1, M1, G1, F1⟩ := hrel
      by_cases hlt : k < n
      · obtain ⟨r0, r1, r2, r3, r4⟩ := R.out k hlt
        have c0 := M1.out.cell k (by rw [HN.out]; exact hlt)
        have c1 := G1.out.cell k (by rw [HGL.out]; exact hlt)
        have b1 := B1.out.cellAt (i := 1) (v := .slice (some ⟨gh, 0, none⟩) n ch) rfl
        have b2 := B1.out.cellAt (i := 2) (v := .int .i64 lv) rfl
        rw [Nat.zero_add] at c0 c1
        generalize hm : M.getD k 0 = m at *
        have HX := Lib.hid hm
        clear hm
        generalize G.getD k 0 = g at *
        generalize (if k = 0 then (0 : Int) else M.getD (k - 1) 0) = la at *
        have hw : IntKind.i64.wrap (la + 1) = la + 1 := by rw [IntKind.wrap_i64]; omega
        go_wp2_with fail
        go_region_held3 (fun w' => w'.cell? ⟨bx, 1, none⟩ = some (.slice (some ⟨gh, 0, none⟩) n ch) ∧ w'.cell? ⟨bx, 2, none⟩ = some (.int .i64 lv) ∧ w'.cell? ⟨gh, k, none⟩ = some (.int .i64 g)) (go_keep)
          (first | (go_at_call 32; refine (lIn _ _ _ (by omega) (by omega) _).mono ?_; rintro e w' ⟨rfl, rfl⟩))
        go_wp2_with fail
        go_roundw
        case rel => exact ⟨k + 1, by omega, by simp, by rw [if_neg (by omega), show k + 1 - 1 = k by omega, HX.out], Lib.hid B1.out.drew, Lib.hid M1.out.drew, Lib.hid G1.out.drew, Lib.hid F1.out.drew⟩
        case measure => simp [intOf]; omega
      · obtain rfl : k = n := by omega
        go_wp2_with fail
        go_ret
        exact ⟨rfl, F1.out⟩
end Go.Proofs.YtnnpjjehecbljaaGreatDoor

namespace Go.Proofs.YtnnpjjehecbljaaGreatDoor
open Go.RowKit

theorem sBin (g cap : Nat) (l : List Int) (x : Int) (w : World) (h : Iv w g cap l) (hs : l.Pairwise (· ≤ ·)) (hl : l.length ≤ 4096) (n : Nat) (hn : n = l.length) :
    Calls Tryz.prog 54 #[.slice (some ⟨g, 0, none⟩) n cap, .int .i64 x] w fun e w' => e = .returned (.tuple #[.int .i64 (posL l x : Nat), .bool (l.contains x)]) ∧ Fr [] w w' := by
  subst hn
  refine (Tryz.slices_BinarySearch_int g 0 l.length cap l x w (Nat.le_refl _) (by omega) h.cell (by rw [List.take_length]; exact hs)).mono ?_
  rw [List.take_length]
  rintro e w' ⟨rfl, q, rfl⟩
  exact ⟨rfl, (Fr.refl [] w).drewN q⟩
theorem rightL_sorted {lvl : Int} : ∀ {M G : List Int} {last : Int}, G.length = M.length → rightL M G lvl last = true → M.Pairwise (· ≤ ·)
  | [], [], _, _, _ => List.Pairwise.nil
  | m :: M, g :: G, last, h, hr => by
    have hr2 := hr
    rw [rightL_cons] at hr
    have h' : G.length = M.length := by simpa using h
    exact List.pairwise_cons.2 ⟨fun y hy => by have := rightL_mem h' hr.2 y hy; omega, rightL_sorted h' hr.2⟩

set_option maxHeartbeats 4000000 in
set_option maxRecDepth 100000 in
theorem lRegister (B dx : Nat) (c : Cfg) (e : Ent) (w : World) (h : LM B w dx c) (hs : c.M.Pairwise (· ≤ ·)) (hlen : c.G.length = c.M.length) (h4 : c.M.length ≤ 4096) :
    Calls Tryz.prog 28 #[.pointer (some ⟨dx, 0, none⟩), .agg e.cells] w fun r w' => Told B dx w (registerOf c e.node e.level) r w' := by
  obtain ⟨gm, cm, gh, ch, hB, hM, hG, hne, b1, b2, n1, n2, b3⟩ := h
  have hF := (Fr.refl [dx] w).alloc (.cells e.cells 24)
  have hlt := hB.lt
  have hE := Blk.new w e.cells 24
  have HA := Lib.hid (And.intro (hM.alloc (.cells e.cells 24)) (And.intro (hG.alloc (.cells e.cells 24)) (And.intro (hB.alloc (.cells e.cells 24)) hE)))
  have HFw := Lib.hid ((Fr.refl [] w).alloc (.cells e.cells 24))
  have HC := Lib.hid (sBin gm cm c.M e.node (w.alloc (.cells e.cells 24)).drew (hM.alloc (.cells e.cells 24)).drew hs h4 _ rfl)
  clear hF hM hG hE
  unfold Ent.cells at *
  unfold cfC ivV at *
  have HP := Lib.hid (posL_lt (M := c.M) (x := e.node))
  unfold registerOf
  obtain ⟨M, G, lv, fin⟩ := c
  simp only at *
  generalize hp : posL M e.node = p at *
  generalize hcn : M.contains e.node = cn at *
  have HCN := Lib.hid hcn
  clear hp hcn hs hB
  generalize hw1 : w.alloc (.cells #[.int .u64 e.term, .int .u64 e.index, .int .i64 e.kind, .int .u64 e.client, .int .u64 e.seq, .int .u64 e.block, .int .u64 e.many, .int .i64 e.node, .int .i64 e.level, .string e.data, .string e.old] 24) = w1 at *
  have HW1 := Lib.hid hw1
  clear hw1
  have c0 : w1.cell? ⟨dx, 0, none⟩ = some (.slice (some ⟨gm, 0, none⟩) M.length cm) := HA.out.2.2.1.cellAt (i := 0) rfl
  have e7 : w1.cell? ⟨w.heap.size, 7, none⟩ = some (.int .i64 e.node) := HA.out.2.2.2.cellAt (i := 7) rfl
  go_enter Tryz.func28, Tryz.ntmps28
  go_upto_region 1 with fail
  rw [HW1.out]
  have HSZ := Lib.hid (show w.heap.size < w1.heap.size from HA.out.2.2.2.lt)
  generalize hex : w.heap.size = ex at *
  have HEX := Lib.hid hex
  clear hex
  go_region_with (go_at_call 54; refine HC.out.mono ?_; rintro r w2 ⟨rfl, f2⟩; have F2 := Lib.hid ((Fr.refl [] w1).drew.trans0 f2); clear f2)
  all_goals
    have B2 := Lib.hid (HA.out.2.2.1.fr0 F2.out)
    have E2 := Lib.hid (HA.out.2.2.2.fr0 F2.out)
    have M2 := Lib.hid (HA.out.1.fr F2.out (by simp))
    have G2 := Lib.hid (HA.out.2.1.fr F2.out (by simp))
    have FW := Lib.hid (HFw.out.trans0 F2.out)
    have d1 : w2.cell? ⟨dx, 1, none⟩ = some (.slice (some ⟨gh, 0, none⟩) G.length ch) := B2.out.cellAt (i := 1) rfl
    have d2 : w2.cell? ⟨dx, 2, none⟩ = some (.int .i64 lv) := B2.out.cellAt (i := 2) rfl
    have e8 : w2.cell? ⟨ex, 8, none⟩ = some (.int .i64 e.level) := E2.out.cellAt (i := 8) rfl
    clear c0 e7
    cases cn with
    | false =>
      go_wp2_with fail
      go_ret
      exact ⟨rfl, fun h => Told.no h (by decide), FW.out.toBelow (by rw [HEX.out]; omega) (by simp)⟩
    | true =>
      by_cases h1 : e.level < lv
      · go_wp2_with fail
        go_region
        all_goals
          go_wp2_with fail
          go_ret
          exact ⟨rfl, fun h => Told.no h (by decide), FW.out.drew.toBelow (by rw [HEX.out]; omega) (by simp)⟩
      · have hp : p < G.length := by
          have := HP.out (by simpa using HCN.out)
          omega
        have g1 := G2.out.cell p hp
        have gz := G2.out.froz p
        rw [Nat.zero_add] at g1
        go_wp2_with fail
        go_region
        go_wp2_with fail
        go_region
        all_goals go_wp2_with fail
        go_ret
        refine ⟨rfl, fun _ => ⟨gm, cm, gh, ch, ?_, ?_, ?_, hne, b1, b2, n1, n2, b3⟩, ?_⟩
        · unfold cfC ivV
          simp only [List.length_set]
          exact B2.out.far (p := ⟨gh, p, none⟩) n2.symm _
        · exact M2.out.far (p := ⟨gh, p, none⟩) hne _
        · exact G2.out.set p _
        · have hq : Fr [gh] w (w2.setCell ⟨gh, p, none⟩ (.int .i64 e.level)) := (FW.out.wide0 (S := [gh])).setCell (Or.inl List.mem_cons_self) _
          have hb := hq.toBelow (B := B) (by rw [HEX.out]; omega) (by intro x hx; simp at hx; omega)
          exact ⟨hb.os, hb.tape, hb.output, hb.size, hb.block⟩
end Go.Proofs.YtnnpjjehecbljaaGreatDoor

namespace Go.Proofs.YtnnpjjehecbljaaGreatDoor
open Go.RowKit Go.Lib

theorem Tryz.elI : ElT Tryz.prog 28 3 (.int .i64 0) 1 8 := ElT.mk' Tryz.underlying28 (by kernel_rfl) rfl (by decide)
theorem Tryz.szI : (Tryz.prog.info? 3).map (·.size) = some 1 := by kernel_rfl
theorem Blk.setCells {r : Nat} {t : TypeId} : ∀ (vs : List Value) (o : Nat) (w : World) (L : List Value), Blk w r L.toArray t → o + vs.length ≤ L.length → Blk (w.setCells r o vs) r (L.take o ++ vs ++ L.drop (o + vs.length)).toArray t
  | [], o, w, L, h, _ => by
    rw [World.setCells]
    simpa using h
  | v :: vs, o, w, L, h, hl => by
    rw [World.setCells]
    have hl' : o + 1 + vs.length ≤ L.length := by simp at hl; omega
    have h1 := Blk.setCells vs (o + 1) (w.setCell ⟨r, o, none⟩ v) (L.set o v) (by have := h.set o v; simpa using this) (by simpa using hl')
    have e : (L.set o v).take (o + 1) ++ vs ++ (L.set o v).drop (o + 1 + vs.length) = L.take o ++ (v :: vs) ++ L.drop (o + (v :: vs).length) := by
      rw [List.take_set, List.drop_set_of_lt (by omega), List.take_succ_eq_append_getElem (by omega)]
      rw [List.set_append_right _ _ (by rw [List.length_take]; omega)]
      have : o - (L.take o).length = 0 := by rw [List.length_take]; omega
      rw [this]
      simp
      congr 1
      omega
    rwa [e] at h1
theorem Fr.setCells {S : List Nat} {a : World} {r : Nat} (hr : r ∈ S ∨ a.heap.size ≤ r) : ∀ (vs : List Value) (o : Nat) (w : World), Fr S a w → Fr S a (w.setCells r o vs)
  | [], _, _, h => h
  | v :: vs, o, w, h => by
    rw [World.setCells]
    exact Fr.setCells hr vs (o + 1) _ (h.setCell (p := ⟨r, o, none⟩) hr v)
/-- Ones ahead, zeros behind. -/
def onesL (n k : Nat) : List Value := List.replicate k (.int .i64 1) ++ List.replicate (n - k) (.int .i64 0)
theorem onesL_length {n k : Nat} (h : k ≤ n) : (onesL n k).length = n := by
  unfold onesL
  rw [List.length_append, List.length_replicate, List.length_replicate]
  omega
theorem onesL_put {n k m : Nat} (h : k + m ≤ n) : (onesL n k).take k ++ List.replicate m (.int .i64 1) ++ (onesL n k).drop (k + m) = onesL n (k + m) := by
  unfold onesL
  rw [List.take_append, List.length_replicate, Nat.sub_self, List.take_zero, List.append_nil, List.take_of_length_le (by rw [List.length_replicate]; exact Nat.le_refl _), List.drop_append, List.length_replicate,
    List.drop_of_length_le (by rw [List.length_replicate]; omega), List.nil_append, List.drop_replicate, List.replicate_append_replicate]
  congr 2
  omega
theorem onesL_get {n k j : Nat} (h : j < k) : (onesL n k)[j]? = some (.int .i64 1) := by
  unfold onesL
  rw [List.getElem?_append_left (by rw [List.length_replicate]; exact h), List.getElem?_replicate, if_pos h]

theorem copyOnes (w : World) (ty : TypeId) (b o dl dc sb so sl sc m : Nat) (hm : m = Nat.min sl dl) (hs : ∀ j, j < m → w.cell? ⟨sb, so + j, none⟩ = some (.int .i64 1)) (hc : ∀ j, j < m → (w.cell? ⟨b, o + j, none⟩).isSome = true) (hf : ∀ j, w.frozen? ⟨b, j, none⟩ = false) :
    (Builtin.copy_ #[28, 28] ty #[.slice (some ⟨b, o, none⟩) dl dc, .slice (some ⟨sb, so, none⟩) sl sc]).run Tryz.prog w = .ok (.int .i64 (m : Nat)) (w.setCells b o (List.replicate m (.int .i64 1))) := by
  have h := run_copy_cells (P := Tryz.prog) w 28 28 ty 3 b o dl dc ⟨sb, so, none⟩ sl sc (List.replicate m (.int .i64 1)) Tryz.underlying28 Tryz.szI (by rw [List.length_replicate]; exact hm)
    (fun j v hj => by
      rw [List.getElem?_replicate] at hj
      split at hj
      · rename_i hjm
        cases hj
        rw [Addr.add_lit]
        exact hs j hjm
      · cases hj)
    (fun j hj => by rw [List.length_replicate] at hj; exact hc j hj) (fun j _ => hf _) (fun v hv => by rw [List.eq_of_mem_replicate hv]; rfl)
  rw [List.length_replicate] at h
  exact h

theorem repFirst {w w1 : World} {bx cx g n : Nat} (h1 : 1 ≤ n) (hx : w.cell? ⟨bx, 0, none⟩ = some (.int .i64 1)) (hbl : bx < w.heap.size) (HG : Hid (g = w.heap.size)) (HB : Hid (Blk w1 g (Array.replicate n (.int .i64 0)) 3)) (HF : Hid (Fr [] w w1)) :
    (∀ ty, (Builtin.copy_ #[28, 28] ty #[.slice (some ⟨g, 0, none⟩) n n, .slice (some ⟨bx, 0, none⟩) 1 cx]).run Tryz.prog w1 = .ok (.int .i64 1) (w1.setCells g 0 [.int .i64 1])) ∧
    Hid (Blk (w1.setCells g 0 [.int .i64 1]) g (onesL n 1).toArray 3) ∧ Hid (Fr [] w (w1.setCells g 0 [.int .i64 1])) := by
  have HB0 : Hid (Blk w1 g (onesL n 0).toArray 3) := by
    have e : (onesL n 0).toArray = Array.replicate n (.int .i64 0) := by unfold onesL; simp
    rw [e]
    exact HB
  have hg0 := HG.out
  have hxg : w1.cell? ⟨bx, 0, none⟩ = some (.int .i64 1) := by
    have h9 := HF.out.block bx hbl (by simp)
    simp only [World.cell?] at hx ⊢
    rw [h9]
    exact hx
  refine ⟨?_, ?_, ?_⟩
  · intro ty
    refine copyOnes w1 ty g 0 n n bx 0 1 cx 1 ?_ ?_ ?_ HB0.out.froz
    · show 1 = min 1 n
      omega
    · intro j hj
      have : j = 0 := by omega
      subst this
      exact hxg
    · intro j hj
      have : j = 0 := by omega
      subst this
      rw [HB0.out.cell, List.getElem?_toArray, List.getElem?_eq_getElem (by rw [onesL_length (by omega)]; omega)]
      rfl
  · have h7 := Blk.setCells (List.replicate 1 (.int .i64 1)) 0 w1 (onesL n 0) HB0.out (by rw [onesL_length (by omega)]; simp; omega)
    rw [List.length_replicate, onesL_put (by omega), Nat.zero_add] at h7
    exact h7
  · exact Fr.setCells (Or.inr (by omega)) _ _ _ HF.out
theorem repNext {wr : World} {g n k : Nat} (hk : k < n) (HB : Hid (Blk wr g (onesL n k).toArray 3)) :
    (∀ ty, (Builtin.copy_ #[28, 28] ty #[.slice (some ⟨g, k, none⟩) (n - k) (n - k), .slice (some ⟨g, 0, none⟩) k n]).run Tryz.prog wr.drew = .ok (.int .i64 ((min k (n - k) : Nat) : Int)) (wr.drew.setCells g k (List.replicate (min k (n - k)) (.int .i64 1)))) ∧
    Hid (Blk (wr.drew.setCells g k (List.replicate (min k (n - k)) (.int .i64 1))) g (onesL n (k + min k (n - k))).toArray 3) := by
  have HB' : Blk wr.drew g (onesL n k).toArray 3 := HB.out.drew
  refine ⟨?_, ?_⟩
  · intro ty
    refine copyOnes wr.drew ty g k (n - k) (n - k) g 0 k n (min k (n - k)) rfl ?_ ?_ HB'.froz
    · intro j hj
      rw [HB'.cell, List.getElem?_toArray, Nat.zero_add]
      exact onesL_get (by omega)
    · intro j hj
      rw [HB'.cell, List.getElem?_toArray, List.getElem?_eq_getElem (by rw [onesL_length (by omega)]; omega)]
      rfl
  · have h7 := Blk.setCells (List.replicate (min k (n - k)) (.int .i64 1)) k wr.drew (onesL n k) HB' (by rw [onesL_length (by omega)]; simp; omega)
    rw [List.length_replicate, onesL_put (by omega)] at h7
    exact h7

set_option maxHeartbeats 4000000 in
set_option maxRecDepth 100000 in
theorem sRepeat (bx cx n : Nat) (w : World) (hx : w.cell? ⟨bx, 0, none⟩ = some (.int .i64 1)) (h1 : 1 ≤ n) (h4 : n ≤ 4096) :
    Calls Tryz.prog 21 #[.slice (some ⟨bx, 0, none⟩) 1 cx, .int .i64 (n : Nat)] w fun e w' => ∃ g cap, e = .returned (.slice (some ⟨g, 0, none⟩) n cap) ∧ w.heap.size ≤ g ∧ Iv w' g cap (List.replicate n 1) ∧ Fr [] w w' := by
  have mixed : Tryz.prog.follows Departure.mixedOrders = true := by kernel_rfl
  have HX := Lib.hid hx
  have hbl : bx < w.heap.size := block_lt_of_cell hx
  have hw1 : IntKind.u64.wrap (n : Int) = (n : Int) := by rw [IntKind.wrap_u64]; omega
  have hw2 : IntKind.i64.wrap (n : Int) = (n : Int) := by rw [IntKind.wrap_i64]; omega
  have HM := Lib.hid (Tryz.bits_Mul 1 n (by decide) (by omega) w)
  rw [Nat.one_mul, Nat.div_eq_of_lt (by omega), Nat.mod_eq_of_lt (by omega)] at HM
  go_enter Tryz.func21, Tryz.ntmps21
  go_wp2_with (first
    | (go_at_call 47; refine HM.out.mono ?_; rintro e w' ⟨rfl, rfl⟩)
    | (refine wpList_makeN Tryz.elI rfl _ _ n _ _ rfl rfl (by omega) (by unfold maxLen; omega) ?_; intro g w1 HG HB HF; obtain ⟨HC, HB1, HF1⟩ := repFirst (cx := cx) h1 HX.out hbl HG HB HF)
    | (at_builtin; refine wpList_copy_runI _ rfl _ _ 28 28 rfl _ _ rfl rfl (HC _) ?_))
  all_goals
    generalize w1.setCells g 0 [.int .i64 1] = w2 at *
    go_loopw [8] (fun v wr => ∃ k : Nat, 1 ≤ k ∧ k ≤ n ∧ v = .int .i64 k ∧ Hid (Blk wr g (onesL n k).toArray 3) ∧ Hid (Fr [] w' wr)) (fun v _ => n - (intOf v).toNat)
    case atStart => exact ⟨1, Nat.le_refl 1, h1, rfl, HB1, HF1⟩
    case round =>
      obtain ⟨k, hk1, hkn, rfl, B, F⟩ := hrel
      by_cases hlt : k < n
      · obtain ⟨HC2, B2⟩ := repNext (wr := wr) (g := g) hlt B
        have hm1 : 1 ≤ min k (n - k) := by omega
        have hm2 : k + min k (n - k) ≤ n := by omega
        generalize min k (n - k) = m at *
        have F2 : Hid (Fr [] w' (wr.drew.setCells g k (List.replicate m (.int .i64 1)))) := Fr.setCells (Or.inr (by have := HG.out; omega)) _ _ _ F.out.drew
        have hkm : IntKind.i64.wrap ((k : Int) + (m : Int)) = ((k + m : Nat) : Int) := by rw [IntKind.wrap_i64]; omega
        have hz1 : ¬ n = k := by omega
        have hz2 : (k : Int) ≤ (n : Int) := by omega
        have hz3 : (0 : Int) ≤ (k : Int) := by omega
        have hz4 : (k : Int) < (n : Int) := by omega
        clear HM B
        go_wp2_with fail
        go_region_law_o (refine step_copy_runI rfl _ _ 28 28 rfl (.slice (some ⟨g, k, none⟩) (n - k) (n - k)) (.slice (some ⟨g, 0, none⟩) k n) (by simp [Act.eval, Act.put]) (by simp [Act.eval, Act.put]) (HC2 _) ?_)
        simp [Act.put]
        go_wp2_with fail
        go_roundw
        case rel => exact ⟨k + m, by omega, hm2, by first | rfl | (rw [hkm]) | simp, B2, F2⟩
        case measure => simp [intOf]; omega
      · obtain rfl : k = n := by omega
        go_wp2_with fail
        go_ret
        refine ⟨g, k, rfl, Nat.le_of_eq HG.out.symm, ⟨_, B.out, by rw [List.length_replicate]; exact Nat.le_refl _, by unfold maxLen; omega, ?_, ?_⟩, F.out⟩
        · show (onesL k k).length = k
          exact onesL_length (Nat.le_refl _)
        · unfold onesL
          simp
end Go.Proofs.YtnnpjjehecbljaaGreatDoor

namespace Go.Proofs.YtnnpjjehecbljaaGreatDoor
open Go.RowKit

/-- What is known of a block. -/
inductive Ch where
  | cel (cs : Array Value) (t : TypeId)
  | row (e : TypeId) (cap : Nat) (l : List Value)
  | obj (o : Obj)
def Ch.is : Ch → Obj → Prop
  | .cel cs t, o => o = .cells cs t (0, 0)
  | .row e cap l, o => ∃ cur, o = .cells cur e (0, 0) ∧ cur.size = cap ∧ l.length ≤ cap ∧ cap ≤ maxLen ∧ cur.toList.take l.length = l
  | .obj o', o => o = o'
abbrev Ck := Nat × Ch
def Ck.in (c : Ck) (w : World) : Prop := ∃ o, w.heap[c.1]? = some o ∧ c.2.is o
/-- From w0 on only blocks of F and new ones have changed; the chunks of H stand in w, each in a block of its own, that is of F or new. -/
structure Sat (F : List Nat) (w0 : World) (H : List Ck) (w : World) : Prop where
  fr : Fr F w0 w
  nd : (H.map (·.1)).Nodup
  all : ∀ c, c ∈ H → Ck.in c w
  own : ∀ c, c ∈ H → c.1 ∈ F ∨ w0.heap.size ≤ c.1

theorem erase_perm {α : Type} {c : α} : ∀ {H : List α} {n : Nat}, H[n]? = some c → (c :: H.eraseIdx n).Perm H
  | [], n, h => by simp at h
  | x :: t, 0, h => by
    have : x = c := by simpa using h
    subst this
    exact List.Perm.refl _
  | x :: t, n + 1, h => by
    have h1 : t[n]? = some c := by simpa using h
    show (c :: x :: t.eraseIdx n).Perm (x :: t)
    exact (List.Perm.swap x c _).trans ((erase_perm h1).cons x)

theorem Ck.in.lt {c : Ck} {w : World} (h : Ck.in c w) : c.1 < w.heap.size := by
  obtain ⟨o, h1, -⟩ := h
  exact blk_lt h1
theorem Ck.in.fr {S : List Nat} {c : Ck} {w w' : World} (h : Ck.in c w) (hf : Fr S w w') (hn : c.1 ∉ S) : Ck.in c w' := by
  obtain ⟨o, h1, h2⟩ := h
  exact ⟨o, hf.obj h1 hn, h2⟩
theorem Ck.in.same {c : Ck} {w w' : World} (h : Ck.in c w) (he : w'.heap[c.1]? = w.heap[c.1]?) : Ck.in c w' := by
  obtain ⟨o, h1, h2⟩ := h
  exact ⟨o, he.trans h1, h2⟩

theorem Sat.refl (F : List Nat) (w : World) : Sat F w [] w := ⟨Fr.refl F w, List.Pairwise.nil, (fun _ h => by cases h), (fun _ h => by cases h)⟩
/-- The start: chunks that may be changed. -/
theorem Sat.start {w : World} {H : List Ck} (nd : (H.map (·.1)).Nodup) (all : ∀ c, c ∈ H → Ck.in c w) : Sat (H.map (·.1)) w H w :=
  ⟨Fr.refl _ w, nd, all, fun c h => .inl (List.mem_map.2 ⟨c, h, rfl⟩)⟩
theorem Sat.drew {F : List Nat} {w0 w : World} {H : List Ck} (h : Sat F w0 H w) : Sat F w0 H w.drew := ⟨h.fr.drew, h.nd, h.all, h.own⟩
theorem Sat.drewN {F : List Nat} {w0 w : World} {H : List Ck} (h : Sat F w0 H w) (n : Nat) : Sat F w0 H (w.drewN n) := ⟨h.fr.drewN n, h.nd, h.all, h.own⟩
theorem Sat.lt {F : List Nat} {w0 w : World} {H : List Ck} (h : Sat F w0 H w) : ∀ c, c ∈ H → c.1 < w.heap.size := fun c hc => (h.all c hc).lt
theorem Sat.perm {F : List Nat} {w0 w : World} {H K : List Ck} (h : Sat F w0 H w) (hp : H.Perm K) : Sat F w0 K w :=
  ⟨h.fr, (hp.map _).nodup_iff.1 h.nd, fun c hc => h.all c (hp.mem_iff.2 hc), fun c hc => h.own c (hp.mem_iff.2 hc)⟩
theorem Sat.sub {F : List Nat} {w0 w : World} {H K : List Ck} (h : Sat F w0 H w) (hp : K.Sublist H) : Sat F w0 K w :=
  ⟨h.fr, h.nd.sublist (hp.map _), fun c hc => h.all c (hp.subset hc), fun c hc => h.own c (hp.subset hc)⟩
/-- The n-th one to the head. -/
theorem Sat.pull {F : List Nat} {w0 w : World} {H : List Ck} (h : Sat F w0 H w) (n : Nat) {c : Ck} (hn : H[n]? = some c) : Sat F w0 (c :: H.eraseIdx n) w := by
  exact h.perm (erase_perm hn).symm
theorem Sat.mem {F : List Nat} {w0 w : World} {H : List Ck} (h : Sat F w0 H w) (n : Nat) {c : Ck} (hn : H[n]? = some c) : Ck.in c w := h.all c (List.mem_of_getElem? hn)
theorem Sat.alloc {F : List Nat} {w0 w : World} {H : List Ck} (h : Sat F w0 H w) {o : Obj} {c : Ch} (hc : c.is o) : Sat F w0 ((w.heap.size, c) :: H) (w.alloc o) := by
  refine ⟨h.fr.alloc o, ?_, ?_, ?_⟩
  · rw [List.map_cons, List.nodup_cons]
    refine ⟨fun hm => ?_, h.nd⟩
    obtain ⟨d, hd, he⟩ := List.mem_map.1 hm
    have := h.lt d hd
    simp only at he
    omega
  · intro d hd
    rcases List.mem_cons.1 hd with rfl | hd
    · exact ⟨o, by show (w.heap.push o)[w.heap.size]? = _; simp, hc⟩
    · exact (h.all d hd).same (Below.heap_alloc w o d.1 (h.lt d hd))
  · intro d hd
    rcases List.mem_cons.1 hd with rfl | hd
    · exact .inr h.fr.size
    · exact h.own d hd
theorem Sat.allocK {F : List Nat} {w0 w : World} {H : List Ck} (h : Sat F w0 H w) (k : Nat) (hk : w.heap.size = k) {o : Obj} {c : Ch} (hc : c.is o) : Sat F w0 ((k, c) :: H) (w.alloc o) := by
  subst hk
  exact h.alloc hc
/-- A block of cells is made. -/
theorem Sat.new {F : List Nat} {w0 w : World} {H : List Ck} (h : Sat F w0 H w) (k : Nat) (hk : w.heap.size = k) (cs : Array Value) (t : TypeId) : Sat F w0 ((k, .cel cs t) :: H) (w.alloc (.cells cs t)) := h.allocK k hk rfl
/-- A call behind it: the chunks A are changed by it, the others stay. -/
theorem Sat.trans {F : List Nat} {w0 w w' : World} {A B N : List Ck} (h : Sat F w0 (A ++ B) w) (k : Sat (A.map (·.1)) w N w') : Sat F w0 (N ++ B) w' := by
  have hnd := h.nd
  rw [List.map_append, List.nodup_append] at hnd
  obtain ⟨hA, hB, hAB⟩ := hnd
  have hBlt : ∀ c, c ∈ B → c.1 < w.heap.size := fun c hc => h.lt c (List.mem_append.2 (.inr hc))
  have hBn : ∀ c, c ∈ B → c.1 ∉ A.map (·.1) := fun c hc hm => hAB _ hm _ (List.mem_map.2 ⟨c, hc, rfl⟩) rfl
  refine ⟨h.fr.trans k.fr (fun x hx => ?_), ?_, ?_, ?_⟩
  · obtain ⟨d, hd, rfl⟩ := List.mem_map.1 hx
    exact h.own d (List.mem_append.2 (.inl hd))
  · rw [List.map_append, List.nodup_append]
    refine ⟨k.nd, hB, ?_⟩
    intro x hx y hy
    obtain ⟨d, hd, rfl⟩ := List.mem_map.1 hx
    obtain ⟨e, he, rfl⟩ := List.mem_map.1 hy
    intro hde
    rcases k.own d hd with h1 | h1
    · exact hBn e he (hde ▸ h1)
    · have := hBlt e he; omega
  · intro c hc
    rcases List.mem_append.1 hc with h1 | h1
    · exact k.all c h1
    · exact (h.all c (List.mem_append.2 (.inr h1))).fr k.fr (hBn c h1)
  · intro c hc
    rcases List.mem_append.1 hc with h1 | h1
    · rcases k.own c h1 with h2 | h2
      · obtain ⟨d, hd, hde⟩ := List.mem_map.1 h2
        rw [← hde]
        exact h.own d (List.mem_append.2 (.inl hd))
      · have := h.fr.size; right; omega
    · exact h.own c (List.mem_append.2 (.inr h1))
theorem Sat.trans0 {F : List Nat} {w0 w w' : World} {B N : List Ck} (h : Sat F w0 B w) (k : Sat [] w N w') : Sat F w0 (N ++ B) w' := Sat.trans (A := []) h k
theorem Sat.fr0 {F : List Nat} {w0 w w' : World} {B : List Ck} (h : Sat F w0 B w) (k : Fr [] w w') : Sat F w0 B w' := Sat.trans (A := []) (N := []) h ⟨k, List.Pairwise.nil, (fun _ h => by cases h), (fun _ h => by cases h)⟩
theorem Sat.trans1 {F : List Nat} {w0 w w' : World} {a : Ck} {B N : List Ck} (h : Sat F w0 (a :: B) w) (k : Sat [a.1] w N w') : Sat F w0 (N ++ B) w' := Sat.trans (A := [a]) h k
theorem Sat.trans2 {F : List Nat} {w0 w w' : World} {a b : Ck} {B N : List Ck} (h : Sat F w0 (a :: b :: B) w) (k : Sat [a.1, b.1] w N w') : Sat F w0 (N ++ B) w' := Sat.trans (A := [a, b]) h k
theorem Sat.trans3 {F : List Nat} {w0 w w' : World} {a b c : Ck} {B N : List Ck} (h : Sat F w0 (a :: b :: c :: B) w) (k : Sat [a.1, b.1, c.1] w N w') : Sat F w0 (N ++ B) w' := Sat.trans (A := [a, b, c]) h k
/-- A block changed in place. -/
theorem Sat.put {F : List Nat} {w0 w : World} {H : List Ck} (h : Sat F w0 H w) (n : Nat) {b : Nat} {c d : Ch} (hn : H[n]? = some (b, c)) {w' : World} (hf : Fr [b] w w') (hd : Ck.in (b, d) w') : Sat F w0 (H.set n (b, d)) w' := by
  have h1 := h.pull n hn
  have k : Sat [b] w [(b, d)] w' := ⟨hf, by simp, (fun c hc => by simp at hc; subst hc; exact hd), (fun c hc => by simp at hc; subst hc; simp)⟩
  have h2 := Sat.trans1 h1 k
  refine h2.perm ?_
  have hlt : n < H.length := by
    rcases Nat.lt_or_ge n H.length with h1 | h1
    · exact h1
    · rw [List.getElem?_eq_none h1] at hn; cases hn
  have h3 : (H.set n (b, d))[n]? = some (b, d) := by rw [List.getElem?_set_self hlt]
  have h4 := erase_perm h3
  rw [List.eraseIdx_set_eq] at h4
  exact h4
theorem Ck.cel_in {w : World} {b : Nat} {cs : Array Value} {t : TypeId} : Ck.in (b, .cel cs t) w ↔ Blk w b cs t := by
  constructor
  · rintro ⟨o, h1, h2⟩
    have : o = .cells cs t (0, 0) := h2
    subst this
    exact h1
  · intro h
    exact ⟨_, h, rfl⟩
theorem Sat.set {F : List Nat} {w0 w : World} {H : List Ck} (h : Sat F w0 H w) (n : Nat) {b : Nat} {cs : Array Value} {t : TypeId} (hn : H[n]? = some (b, .cel cs t)) (i : Nat) (v : Value) : Sat F w0 (H.set n (b, .cel (cs.setIfInBounds i v) t)) (w.setCell ⟨b, i, none⟩ v) :=
  h.put n hn ((Fr.refl [b] w).setCell (p := ⟨b, i, none⟩) (.inl (by simp)) v) (Ck.cel_in.2 ((Ck.cel_in.1 (h.mem n hn)).set i v))
theorem Ck.row_set {w : World} {b : Nat} {e : TypeId} {cap : Nat} {l : List Value} (h : Ck.in (b, .row e cap l) w) (i : Nat) (v : Value) : Ck.in (b, .row e cap (l.set i v)) (w.setCell ⟨b, i, none⟩ v) := by
  obtain ⟨o, h1, cur, rfl, h2, h3, h4, h5⟩ := h
  have hb : Blk w b cur e := h1
  refine ⟨_, hb.set i v, _, rfl, by rw [Array.size_setIfInBounds]; exact h2, by rw [List.length_set]; exact h3, h4, ?_⟩
  rw [Array.toList_setIfInBounds, List.length_set, List.take_set, h5]
theorem Sat.setRow {F : List Nat} {w0 w : World} {H : List Ck} (h : Sat F w0 H w) (n : Nat) {b : Nat} {e : TypeId} {cap : Nat} {l : List Value} (hn : H[n]? = some (b, .row e cap l)) (i : Nat) (v : Value) : Sat F w0 (H.set n (b, .row e cap (l.set i v))) (w.setCell ⟨b, i, none⟩ v) :=
  h.put n hn ((Fr.refl [b] w).setCell (p := ⟨b, i, none⟩) (.inl (by simp)) v) (Ck.row_set (h.mem n hn) i v)

/-- What the walk's simp may use of a chunk. -/
def Ck.say (c : Ck) (w : World) : Prop :=
  match c.2 with
  | .cel cs _ => (∀ i, w.cell? ⟨c.1, i, none⟩ = cs[i]?) ∧ (∀ i, w.frozen? ⟨c.1, i, none⟩ = false) ∧ c.1 < w.heap.size
  | .row _ _ l => (∀ i, i < l.length → w.cell? ⟨c.1, i, none⟩ = l[i]?) ∧ (∀ i, w.frozen? ⟨c.1, i, none⟩ = false) ∧ c.1 < w.heap.size
  | .obj _ => c.1 < w.heap.size
theorem Ck.in.says {c : Ck} {w : World} (h : Ck.in c w) : c.say w := by
  have hlt := h.lt
  obtain ⟨b, c⟩ := c
  obtain ⟨o, h1, h2⟩ := h
  cases c with
  | cel cs t =>
    have : o = .cells cs t (0, 0) := h2
    subst this
    have hb : Blk w b cs t := h1
    exact ⟨hb.cell, hb.froz, hlt⟩
  | row e cap l =>
    obtain ⟨cur, rfl, h3, h4, h5, h6⟩ := h2
    have hb : Blk w b cur e := h1
    refine ⟨fun i hi => ?_, hb.froz, hlt⟩
    show w.cell? ⟨b, i, none⟩ = l[i]?
    rw [hb.cell, ← Array.getElem?_toList]
    conv => rhs; rw [← h6]
    rw [List.getElem?_take_of_lt hi]
  | obj o' => exact hlt
def says : List Ck → World → Prop
  | [], _ => True
  | [c], w => c.say w
  | c :: H, w => c.say w ∧ says H w
theorem says_of {w : World} : ∀ {H : List Ck}, (∀ c, c ∈ H → Ck.in c w) → says H w
  | [], _ => trivial
  | [c], h => (h c List.mem_cons_self).says
  | c :: d :: H, h => ⟨(h c List.mem_cons_self).says, says_of (H := d :: H) (fun e he => h e (List.mem_cons_of_mem _ he))⟩
theorem Sat.says {F : List Nat} {w0 w : World} {H : List Ck} (h : Sat F w0 H w) : says H w := says_of h.all

theorem Sat.one {S : List Nat} {w w' : World} {c : Ck} (f : Fr S w w') (hc : Ck.in c w') (hb : c.1 ∈ S ∨ w.heap.size ≤ c.1) : Sat S w [c] w' :=
  ⟨f, by simp, (fun d hd => by simp at hd; subst hd; exact hc), (fun d hd => by simp at hd; subst hd; exact hb)⟩
theorem Sat.ne {F : List Nat} {w0 w : World} {H : List Ck} (h : Sat F w0 H w) (n m : Nat) {c d : Ck} (hn : H[n]? = some c) (hm : H[m]? = some d) (hnm : n ≠ m) : c.1 ≠ d.1 := by
  intro he
  have hn' : (H.map (·.1))[n]? = some c.1 := by rw [List.getElem?_map, hn]; rfl
  have hm' : (H.map (·.1))[m]? = some c.1 := by rw [List.getElem?_map, hm, he]; rfl
  exact hnm ((List.getElem?_inj (by
    rcases Nat.lt_or_ge n (H.map (·.1)).length with h1 | h1
    · exact h1
    · rw [List.getElem?_eq_none h1] at hn'; cases hn') h.nd).1 (hn'.trans hm'.symm))
/-- Some of the chunks, by their places. -/
theorem Sat.pick {F : List Nat} {w0 w : World} {H : List Ck} (h : Sat F w0 H w) (is : List Nat) {K : List Ck} (hd : is.Nodup) (hK : is.map (fun i => H[i]?) = K.map some) : Sat F w0 K w := by
  have hlen : is.length = K.length := by have := congrArg List.length hK; simpa using this
  have hget : ∀ (j : Nat) (d : Ck), K[j]? = some d → ∃ i, is[j]? = some i ∧ H[i]? = some d := fun j d hj => by
    have h1 : (is.map (fun i => H[i]?))[j]? = some (some d) := by rw [hK, List.getElem?_map, hj]; rfl
    rw [List.getElem?_map] at h1
    cases hi : is[j]? with
    | none => rw [hi] at h1; simp at h1
    | some i => rw [hi] at h1; exact ⟨i, rfl, by simpa using h1⟩
  refine ⟨h.fr, ?_, fun d hd => ?_, fun d hd => ?_⟩
  · refine List.pairwise_iff_getElem.2 ?_
    intro a b ha hb hab he
    have he : (K.map (·.1))[a]? = (K.map (·.1))[b]? := by rw [List.getElem?_eq_getElem ha, List.getElem?_eq_getElem hb, he]
    rw [List.length_map] at hb
    obtain ⟨da, ha'⟩ : ∃ d, K[a]? = some d := ⟨_, List.getElem?_eq_getElem (by omega)⟩
    obtain ⟨db, hb'⟩ : ∃ d, K[b]? = some d := ⟨_, List.getElem?_eq_getElem hb⟩
    obtain ⟨i, hi1, hi2⟩ := hget a da ha'
    obtain ⟨j, hj1, hj2⟩ := hget b db hb'
    rw [List.getElem?_map, List.getElem?_map, ha', hb'] at he
    have hij : i ≠ j := fun e => by
      subst e
      have := (List.getElem?_inj (by omega : a < is.length) hd).1 (hi1.trans hj1.symm)
      omega
    exact h.ne i j hi2 hj2 hij (by simpa using he)
  · obtain ⟨j, hj⟩ := List.mem_iff_getElem?.1 hd
    obtain ⟨i, -, hi⟩ := hget j d hj
    exact h.mem i hi
  · obtain ⟨j, hj⟩ := List.mem_iff_getElem?.1 hd
    obtain ⟨i, -, hi⟩ := hget j d hj
    exact h.own d (List.mem_of_getElem? hi)
/-- A call that changes one chunk. -/
theorem Sat.call1 {P : Program} {f : FuncId} {args : Array Value} {F : List Nat} {w0 w : World} {H : List Ck} {Q : Ending → World → Prop} (hS : Sat F w0 H w) (n : Nat) {a : Ck} (hn : H[n]? = some a) {α : Type} {R : α → Value} {N : α → List Ck}
    (hc : Ck.in a w → Calls P f args w (fun e w' => ∃ x : α, e = .returned (R x) ∧ Sat [a.1] w (N x) w')) (k : ∀ x w', Sat F w0 (N x ++ H.eraseIdx n) w' → Q (.returned (R x)) w') : Calls P f args w Q := by
  refine (hc (hS.mem n hn)).mono ?_
  rintro e w' ⟨x, rfl, h⟩
  exact k x w' ((hS.pull n hn).trans1 h)
/-- A call that changes none. -/
theorem Sat.call0 {P : Program} {f : FuncId} {args : Array Value} {F : List Nat} {w0 w : World} {H : List Ck} {Q : Ending → World → Prop} (hS : Sat F w0 H w) {α : Type} {R : α → Value} {N : α → List Ck}
    (hc : Calls P f args w (fun e w' => ∃ x : α, e = .returned (R x) ∧ Sat [] w (N x) w')) (k : ∀ x w', Sat F w0 (N x ++ H) w' → Q (.returned (R x)) w') : Calls P f args w Q := by
  refine hc.mono ?_
  rintro e w' ⟨x, rfl, h⟩
  exact k x w' (hS.trans0 h)
theorem Sat.callF {P : Program} {f : FuncId} {args : Array Value} {F : List Nat} {w0 w : World} {H : List Ck} {Q : Ending → World → Prop} {v : Value} (hS : Sat F w0 H w)
    (hc : Calls P f args w (fun e w' => e = .returned v ∧ Fr [] w w')) (k : ∀ w', Sat F w0 H w' → Q (.returned v) w') : Calls P f args w Q := by
  refine hc.mono ?_
  rintro e w' ⟨rfl, h⟩
  exact k w' (hS.fr0 h)
theorem at0 {α : Type} {a : α} {L : List α} : (a :: L)[0]? = some a := rfl
theorem at1 {α : Type} {a b : α} {L : List α} : (a :: b :: L)[1]? = some b := rfl
theorem at2 {α : Type} {a b c : α} {L : List α} : (a :: b :: c :: L)[2]? = some c := rfl
theorem at3 {α : Type} {a b c d : α} {L : List α} : (a :: b :: c :: d :: L)[3]? = some d := rfl
theorem at4 {α : Type} {a b c d e : α} {L : List α} : (a :: b :: c :: d :: e :: L)[4]? = some e := rfl
theorem at5 {α : Type} {a b c d e f : α} {L : List α} : (a :: b :: c :: d :: e :: f :: L)[5]? = some f := rfl
theorem at6 {α : Type} {a b c d e f g : α} {L : List α} : (a :: b :: c :: d :: e :: f :: g :: L)[6]? = some g := rfl
theorem at7 {α : Type} {a b c d e f g h : α} {L : List α} : (a :: b :: c :: d :: e :: f :: g :: h :: L)[7]? = some h := rfl
theorem at8 {α : Type} {a b c d e f g h i : α} {L : List α} : (a :: b :: c :: d :: e :: f :: g :: h :: i :: L)[8]? = some i := rfl
theorem at9 {α : Type} {a b c d e f g h i j : α} {L : List α} : (a :: b :: c :: d :: e :: f :: g :: h :: i :: j :: L)[9]? = some j := rfl
theorem at10 {α : Type} {a b c d e f g h i j k : α} {L : List α} : (a :: b :: c :: d :: e :: f :: g :: h :: i :: j :: k :: L)[10]? = some k := rfl
theorem at11 {α : Type} {a b c d e f g h i j k l : α} {L : List α} : (a :: b :: c :: d :: e :: f :: g :: h :: i :: j :: k :: l :: L)[11]? = some l := rfl
theorem at12 {α : Type} {a b c d e f g h i j k l m : α} {L : List α} : (a :: b :: c :: d :: e :: f :: g :: h :: i :: j :: k :: l :: m :: L)[12]? = some m := rfl
/-- Another way to know a block. -/
theorem Sat.recast {F : List Nat} {w0 w : World} {H : List Ck} {b : Nat} {c d : Ch} (h : Sat F w0 ((b, c) :: H) w) (hd : Ck.in (b, c) w → Ck.in (b, d) w) : Sat F w0 ((b, d) :: H) w :=
  ⟨h.fr, h.nd, (fun x hx => by
    rcases List.mem_cons.1 hx with rfl | hx
    · exact hd (h.all _ List.mem_cons_self)
    · exact h.all _ (List.mem_cons_of_mem _ hx)), (fun x hx => by
    rcases List.mem_cons.1 hx with rfl | hx
    · exact h.own (b, c) List.mem_cons_self
    · exact h.own _ (List.mem_cons_of_mem _ hx))⟩
theorem Sat.asRow {F : List Nat} {w0 w : World} {H : List Ck} {b : Nat} {cs : Array Value} {t : TypeId} (h : Sat F w0 ((b, .cel cs t) :: H) w) (hcs : cs.size ≤ maxLen) : Sat F w0 ((b, .row t cs.size cs.toList) :: H) w :=
  h.recast (fun ⟨o, h1, h2⟩ => ⟨o, h1, cs, h2, rfl, (by simp), hcs, (by rw [List.take_of_length_le (by simp)])⟩)
/-- A slice of ints. -/
abbrev ivCh (t : TypeId) (cap : Nat) (l : List Int) : Ch := .row t cap (l.map (Value.int .i64))
end Go.Proofs.YtnnpjjehecbljaaGreatDoor

namespace Go.Proofs.YtnnpjjehecbljaaGreatDoor
open Go.RowKit Go.Shelf

def lays2n21_ren : Go.Shelf.Ren := ⟨fun | 21 => 55 | 27 => 70 | 28 => 71 | 35 => 88 | 39 => 100 | n => n, fun | 0 => 0 | 3 => 3 | 4 => 4 | 22 => 28 | n => n, fun | n => n⟩
theorem lays2n21 : Go.Proofs.Lays2.n21 Tryz.prog lays2n21_ren := {
  mixed := by kernel_rfl
  f21 := Tryz.func55.trans (congrArg some (by kernel_rfl))
  f27 := Tryz.func70.trans (congrArg some (by kernel_rfl))
  f28 := Tryz.func71.trans (congrArg some (by kernel_rfl))
  f35 := Tryz.func88.trans (congrArg some (by kernel_rfl))
  f39 := Tryz.func100.trans (congrArg some (by kernel_rfl))
  t0 := Tryz.underlying0
  a0 := Tryz.isAgg0
  z0 := Tryz.sizeOf0
  v0 := Tryz.zeroValue0
  t3 := Tryz.underlying3
  a3 := Tryz.isAgg3
  z3 := Tryz.sizeOf3
  v3 := Tryz.zeroValue3
  t4 := Tryz.underlying4
  a4 := Tryz.isAgg4
  z4 := Tryz.sizeOf4
  v4 := Tryz.zeroValue4
  t22 := Tryz.underlying28
  a22 := Tryz.isAgg28
  z22 := Tryz.sizeOf28
  v22 := Tryz.zeroValue28
  i3 := by kernel_rfl }

theorem Iv.csOf {w : World} {g cap : Nat} {l : List Int} (h : Iv w g cap l) : ∀ j v, (l.map (Value.int .i64))[j]? = some v → w.cell? ⟨g, 0 + j, none⟩ = some v := by
  intro j v hv
  rw [List.getElem?_map] at hv
  cases hj : l[j]? with
  | none => rw [hj] at hv; cases hv
  | some x =>
    rw [hj] at hv
    have hlt : j < l.length := by
      rcases Nat.lt_or_ge j l.length with h1 | h1
      · exact h1
      · rw [List.getElem?_eq_none h1] at hj; cases hj
    rw [h.cell j hlt, List.getD_eq_getElem?_getD, hj]
    exact hv
theorem one_map (l : List Int) : ∀ v ∈ l.map (Value.int .i64), v.oneCell' = true := by
  intro v hv
  rw [List.mem_map] at hv
  obtain ⟨x, -, rfl⟩ := hv
  rfl
theorem map_insL (l : List Int) (p : Nat) (x : Int) : (l.map (Value.int .i64)).take p ++ [Value.int .i64 x] ++ (l.map (Value.int .i64)).drop p = (insL l p x).map (Value.int .i64) := by
  unfold insL
  simp
theorem Blk.shape {w : World} {r : Nat} {cs : Array Value} {t : TypeId} (h : Blk w r cs t) : w.shape? r = some (t, cs.size) := by
  unfold Blk at h
  simp [World.shape?, h]

theorem grown_bd (w : World) (need old : Nat) (e : TypeId) (h : need < 9223372036854775807) : need ≤ grownCap w need old e ∧ grownCap w need old e ≤ maxLen := by
  unfold grownCap Question.cut maxLen
  simp only
  have := Nat.mod_lt (w.tape w.drawn (.appendCap need old e)) (show 0 < 2 ^ 63 - need by omega)
  omega

theorem sInsert (g cap p : Nat) (l : List Int) (x : Int) (vb vc : Nat) (w : World) (h : Iv w g cap l) (hl : l.length ≤ 4096) (hp : p ≤ l.length) (hv : Blk w vb #[.int .i64 x] 3) (hvb : vb ≠ g) (n : Nat) (hn : n = l.length) :
    Calls Tryz.prog 55 #[.slice (some ⟨g, 0, none⟩) n cap, .int .i64 (p : Nat), .slice (some ⟨vb, 0, none⟩) 1 vc] w fun e w' => ∃ g' cap', e = .returned (.slice (some ⟨g', 0, none⟩) (l.length + 1) cap') ∧ (g' = g ∨ w.heap.size ≤ g') ∧ Iv w' g' cap' (insL l p x) ∧ Fr [g] w w' := by
  subst hn
  have hvs : ∀ (j : Nat) (v : Value), [Value.int .i64 x][j]? = some v → w.cell? ⟨vb, 0 + j, none⟩ = some v := by
    intro j v hj
    rw [hv.cell, Nat.zero_add]
    cases j with
    | zero => exact hj
    | succ j => simp at hj
  have h1v : ∀ v ∈ [Value.int .i64 x], v.oneCell' = true := by intro v hv; simp at hv; subst hv; rfl
  have hlen : (l.map (Value.int .i64)).length = l.length := List.length_map _
  have hle := h.le
  unfold maxLen at hle
  by_cases hroom : l.length + 1 ≤ cap
  · obtain ⟨cur, hb, h2, h3, h4, h5⟩ := h
    have hI : Iv w g cap l := ⟨cur, hb, h2, h3, h4, h5⟩
    have hsp : ∀ j, j < l.length + 1 → (w.cell? ⟨g, 0 + j, none⟩).isSome = true := by
      intro j hj
      rw [hb.cell, Nat.zero_add, Array.getElem?_eq_getElem (by omega)]
      rfl
    -- what stands behind it, in whichever of the two ways
    have hend : ∀ (w1 : World) (L : List Value), Blk w1 g L.toArray 3 → L.length = cap → L.take (l.length + 1) = (insL l p x).map (Value.int .i64) → Iv w1 g cap (insL l p x) := by
      intro w1 L hb1 hL ht
      have hil := insL_length l p x
      refine ⟨L.toArray, hb1, by omega, h3, by simpa using hL, ?_⟩
      rw [hil]
      exact ht
    have hcur : cur = cur.toList.toArray := by simp
    rw [hcur] at hb
    have hcl : cur.toList.length = cap := by simpa using h4
    by_cases hpe : p = l.length
    · subst hpe
      refine (Any2.slices_Insert_int_end_room lays2n21 g 0 l.length cap vb 0 1 vc [.int .i64 x] w (by omega) hroom (by omega) rfl (fun j hj => by rw [Nat.add_assoc]; exact hsp _ (by omega)) (fun j _ => hI.froz _) hvs h1v).mono ?_
      rintro e w' ⟨rfl, rfl⟩
      refine ⟨g, cap, rfl, .inl rfl, ?_, Fr.setCells (Or.inl List.mem_cons_self) _ _ _ (Fr.refl _ _)⟩
      have hb2 := Blk.setCells [.int .i64 x] (0 + l.length) w cur.toList hb (by rw [hcl]; simp; omega)
      refine hend _ _ hb2 (by simp [hcl]; omega) ?_
      rw [Nat.zero_add, List.take_append_of_le_length (by simp [hcl]; omega), List.take_of_length_le (by simp [hcl]; omega), ← map_insL, h5, List.take_of_length_le (by simp), List.drop_of_length_le (by simp), List.append_nil]
    · refine (Any2.slices_Insert_int_shift lays2n21 g 0 l.length cap p vb 0 1 vc (l.map (Value.int .i64)) [.int .i64 x] w (by omega) (by omega) hroom (by omega) hvb hlen rfl hI.csOf hsp (fun j _ => hI.froz _) hvs (one_map l) h1v
        3 3 1 cap hv.shape (by rw [hb.shape]; simp [h4]) (by omega) (hv.froz _) (hv.froz _)).mono ?_
      rintro e w' ⟨rfl, rfl⟩
      have hF : Fr [g] w ((w.drew.setCells g (0 + (p + 1)) ((l.map (Value.int .i64)).drop p)).setCells g (0 + p) [.int .i64 x]) :=
        Fr.setCells (Or.inl List.mem_cons_self) _ _ _ (Fr.setCells (Or.inl List.mem_cons_self) _ _ _ (Fr.refl _ _).drew)
      refine ⟨g, cap, rfl, .inl rfl, ?_, hF⟩
      have hb2 := Blk.setCells ((l.map (Value.int .i64)).drop p) (0 + (p + 1)) w.drew cur.toList hb.drew (by rw [hcl]; simp; omega)
      have hb3 := Blk.setCells [.int .i64 x] (0 + p) _ _ hb2 (by simp [hcl]; omega)
      refine hend _ _ hb3 (by simp [hcl]; omega) ?_
      rw [Nat.zero_add, Nat.zero_add, ← map_insL]
      have hA : (cur.toList.take (p + 1)).length = p + 1 := by rw [List.length_take]; omega
      have hT : (cur.toList.take (p + 1)).take p = (l.map (Value.int .i64)).take p := by
        rw [← h5, List.take_take, List.take_take]
        congr 1
        omega
      have hD : ∀ (B R : List Value), (cur.toList.take (p + 1) ++ B ++ R).drop (p + 1) = B ++ R := fun B R => by
        rw [List.append_assoc, List.drop_append_of_le_length (by omega), List.drop_of_length_le (by omega), List.nil_append]
      have hK : ∀ (B R : List Value), (cur.toList.take (p + 1) ++ B ++ R).take p = (l.map (Value.int .i64)).take p := fun B R => by
        rw [List.append_assoc, List.take_append_of_le_length (by omega), hT]
      rw [hK]
      show (_ ++ _ ++ List.drop (p + 1) _).take _ = _
      rw [hD, ← List.append_assoc, List.take_append_of_le_length (by simp; omega), List.take_of_length_le (by simp; omega)]
  · obtain ⟨hg1, hg2⟩ := grown_bd w (l.length + 1) cap 3 (by omega)
    have hil := insL_length l p x
    by_cases hpe : p = l.length
    · subst hpe
      refine (Any2.slices_Insert_int_end_grow lays2n21 (some ⟨g, 0, none⟩) l.length cap vb 0 1 vc (l.map (Value.int .i64)) [.int .i64 x] w (by omega) hle.1 (by omega) (by omega) hlen rfl (by intro h; cases h)
        (fun a ha j v hj => by cases ha; rw [Addr.add_lit]; exact h.csOf j v hj) hvs h1v).mono ?_
      rintro e w' ⟨rfl, rfl⟩
      refine ⟨w.heap.size, _, rfl, .inr (Nat.le_refl _), ?_, ((Fr.refl [g] w).drew.alloc _)⟩
      show Iv _ _ (grownCap w (l.length + 1) cap 3) _
      refine ⟨_, Blk.new w.drew _ _, by omega, hg2, ?_, ?_⟩
      · rw [Array.size_append, size_zeroCells]
        show ((l.map (Value.int .i64)) ++ [Value.int .i64 x]).toArray.size + (grownCap w (l.length + 1) cap 3 - (l.length + 1)) * 1 = _
        simp
        omega
      · rw [← map_insL, Array.toList_append, List.take_append_of_le_length (by simp; omega), List.take_of_length_le (by simp; omega), List.take_of_length_le (by simp), List.drop_of_length_le (by simp), List.append_nil]
    · have hcsd : ((l.map (Value.int .i64)).drop p).length = l.length - p := by rw [List.length_drop, hlen]
      refine (Any2.slices_Insert_int_grow lays2n21 g 0 l.length cap p vb 0 1 vc (l.map (Value.int .i64)) [.int .i64 x] w (by omega) (by omega) hle.1 (by omega) (by omega) hlen rfl h.csOf hvs (one_map l) h1v).mono ?_
      rintro e w' ⟨rfl, rfl⟩
      generalize hq : grownCap w (l.length + 1) cap 3 = q at *
      refine ⟨w.heap.size, q, by show Ending.returned (.slice (some ⟨w.heap.size, 0, none⟩) (l.length + 1) (grownCap w (l.length + 1) cap 3)) = _; rw [hq], .inr (Nat.le_refl _), ?_, Fr.setCells (Or.inr (Nat.le_refl _)) _ _ _ (Fr.drew (Fr.setCells (Or.inr (Nat.le_refl _)) _ _ _ ((Fr.refl [g] w).alloc _).drew))⟩
      have e0 : ((l.map (Value.int .i64)).take p).toArray ++ Builtin.zeroCells (Value.int .i64 0).cells (l.length + 1 - p) ++ Builtin.zeroCells (Value.int .i64 0).cells (q - (l.length + 1)) = ((l.map (Value.int .i64)).take p ++ ((Builtin.zeroCells (Value.int .i64 0).cells (l.length + 1 - p)).toList ++ (Builtin.zeroCells (Value.int .i64 0).cells (q - (l.length + 1))).toList)).toArray := by
        apply Array.ext'
        simp
      have hz1 : (Builtin.zeroCells (Value.int .i64 0).cells (l.length + 1 - p)).toList.length = l.length + 1 - p := by
        rw [Array.length_toList, size_zeroCells]
        show (l.length + 1 - p) * 1 = _
        omega
      have hz2 : (Builtin.zeroCells (Value.int .i64 0).cells (q - (l.length + 1))).toList.length = q - (l.length + 1) := by
        rw [Array.length_toList, size_zeroCells]
        show (q - (l.length + 1)) * 1 = _
        omega
      have hT : ((l.map (Value.int .i64)).take p).length = p := by rw [List.length_take, hlen]; omega
      show Iv (((w.alloc (.cells (((l.map (Value.int .i64)).take p).toArray ++ Builtin.zeroCells (Value.int .i64 0).cells (l.length + 1 - p) ++ Builtin.zeroCells (Value.int .i64 0).cells (grownCap w (l.length + 1) cap 3 - (l.length + 1))) 3)).drew.setCells w.heap.size p [.int .i64 x]).drew.setCells w.heap.size (p + 1) ((l.map (Value.int .i64)).drop p)) w.heap.size q _
      rw [hq, e0]
      generalize (Builtin.zeroCells (Value.int .i64 0).cells (l.length + 1 - p)).toList = Z1 at *
      generalize (Builtin.zeroCells (Value.int .i64 0).cells (q - (l.length + 1))).toList = Z2 at *
      have b0 := Blk.new w ((l.map (Value.int .i64)).take p ++ (Z1 ++ Z2)).toArray 3
      have b1 := Blk.setCells [.int .i64 x] p _ _ b0.drew (by simp; omega)
      have b2 := Blk.setCells ((l.map (Value.int .i64)).drop p) (p + 1) _ _ b1.drew (by simp; omega)
      refine ⟨_, b2, by omega, hg2, by simp; omega, ?_⟩
      rw [hil, ← map_insL]
      have hA : ((l.map (Value.int .i64)).take p ++ (Z1 ++ Z2)).take p = (l.map (Value.int .i64)).take p := by
        rw [List.take_append_of_le_length (by omega), List.take_of_length_le (by omega)]
      rw [hA, List.take_append_of_le_length (l₁ := (l.map (Value.int .i64)).take p ++ [Value.int .i64 x]) (by simp; omega), List.take_of_length_le (l := (l.map (Value.int .i64)).take p ++ [Value.int .i64 x]) (by simp; omega)]
      rw [List.take_append_of_le_length (by simp; omega), List.take_of_length_le (by simp; omega)]

theorem Iv.ck {w : World} {g cap : Nat} {l : List Int} : Iv w g cap l ↔ Ck.in (g, ivCh 3 cap l) w := by
  constructor
  · rintro ⟨cur, h1, h2, h3, h4, h5⟩
    exact ⟨_, h1, cur, rfl, h4, by rw [List.length_map]; exact h2, h3, by rw [List.length_map]; exact h5⟩
  · rintro ⟨o, h1, cur, rfl, h2, h3, h4, h5⟩
    rw [List.length_map] at h3 h5
    exact ⟨cur, h1, h3, h4, h2, h5⟩
theorem cInsert {F : List Nat} {w0 : World} {H : List Ck} {Q : Ending → World → Prop} {w : World} (hS : Sat F w0 H w) (n m : Nat) {g cap p vb vc len : Nat} {l : List Int} {x : Int}
    (hn : H[n]? = some (g, ivCh 3 cap l)) (hm : H[m]? = some (vb, .cel #[.int .i64 x] 3)) (hnm : n ≠ m) (hl : l.length ≤ 4096) (hp : p ≤ l.length) (hlen : len = l.length)
    (k : ∀ (x' : Nat × Nat) w', Sat F w0 ((x'.1, ivCh 3 x'.2 (insL l p x)) :: H.eraseIdx n) w' → Q (.returned (.slice (some ⟨x'.1, 0, none⟩) (l.length + 1) x'.2)) w') :
    Calls Tryz.prog 55 #[.slice (some ⟨g, 0, none⟩) len cap, .int .i64 (p : Nat), .slice (some ⟨vb, 0, none⟩) 1 vc] w Q := by
  refine hS.call1 n hn (α := Nat × Nat) (R := fun x' => .slice (some ⟨x'.1, 0, none⟩) (l.length + 1) x'.2) (N := fun x' => [(x'.1, ivCh 3 x'.2 (insL l p x))]) (fun hin => ?_) k
  refine (sInsert g cap p l x vb vc w (Iv.ck.2 hin) hl hp (Ck.cel_in.1 (hS.mem m hm)) (hS.ne m n hm hn (Ne.symm hnm)) len hlen).mono ?_
  rintro e w' ⟨g', c', rfl, h1, h2, h3⟩
  exact ⟨(g', c'), rfl, Sat.one h3 (Iv.ck.1 h2) (h1.imp (fun h => by simp [h]) id)⟩
end Go.Proofs.YtnnpjjehecbljaaGreatDoor

namespace Go.Proofs.YtnnpjjehecbljaaGreatDoor
open Go.RowKit

/-- A fact on the world; it is asked for until operation k has come up (none: to the end). -/
abbrev Facts := List (Option Nat × (World → Prop))
def Facts.at (S : Facts) (listed : Array Bool) (w : World) : Prop := ∀ p, p ∈ S → (∀ k, p.1 = some k → listed.getD k true = false) → p.2 w
/-- The facts that stand while none of D has come up. -/
def Facts.of (S : Facts) (D : List Nat) (w : World) : Prop := ∀ p, p ∈ S → (∀ k, p.1 = some k → k ∈ D) → p.2 w
def wpAnyL (P : Program) (md : Region.Mode) (ops : Array Oper) (Q : Exit → Act → World → Prop) (S : Facts) : Nat → Array Bool → Act → World → Prop
  | 0, listed, a, w => Region.ready md ops listed = [] ∧ Q .normal a w
  | fuel + 1, listed, a, w =>
    (Region.ready md ops listed = [] → Q .normal a w) ∧
    ∀ i, i ∈ Region.ready md ops listed → wpOp P ops Q i (fun a' w' => S.at (listed.setIfInBounds i true) w' ∧ wpAnyL P md ops Q S fuel (listed.setIfInBounds i true) a' w') a w
section
variable {P : Program} {ops : Array Oper} {Q : Exit → Act → World → Prop} {md : Region.Mode} {S : Facts}
theorem wpAny_of_L : ∀ (fuel : Nat) (listed : Array Bool) (a : Act) (w : World), wpAnyL P md ops Q S fuel listed a w → wpAny P md ops Q fuel listed a w
  | 0, _, _, _, h => h
  | fuel + 1, _, _, _, h => ⟨h.1, fun i hi => wpOp_mono (fun a' w' h' => wpAny_of_L fuel _ a' w' h'.2) (h.2 i hi)⟩
/-- Each of D waits for i, or for one of D. -/
def waitsB (md : Region.Mode) (ops : Array Oper) (i : Nat) (D : List Nat) : Bool :=
  D.all fun k => match ops[k]? with | some o => o.after.any (fun e => Region.binds md e && (e.on == i || D.contains e.on)) | none => false
theorem Facts.at_of {S : Facts} {D : List Nat} {listed : Array Bool} {w : World} (h : S.at listed w) (hD : ∀ k, k ∈ D → listed.getD k true = false) : S.of D w :=
  fun p hp hk => h p hp (fun k e => hD k (hk k e))
theorem listed_false {listed : Array Bool} {k : Nat} (h : listed.getD k true = false) : listed.getD k false = false := by
  rcases Nat.lt_or_ge k listed.size with h' | h'
  · simp [h'] at h ⊢; exact h
  · simp [Array.getElem?_eq_none h'] at h
theorem waits_ready {i j : Nat} {D : List Nat} {listed : Array Bool} (hw : waitsB md ops i D = true) (hi : listed.getD i true = false) (hD : ∀ k, k ∈ D → listed.getD k true = false) (hj : j ∈ Region.ready md ops listed) : j ∉ D := by
  intro hm
  obtain ⟨h0, o, ho, hall⟩ := mem_ready.1 hj
  unfold waitsB at hw
  rw [List.all_eq_true] at hw
  have h1 := hw j hm
  rw [ho] at h1
  obtain ⟨e, he, hb⟩ := Array.any_eq_true'.1 h1
  simp only [Bool.and_eq_true, Bool.or_eq_true, beq_iff_eq, List.contains_iff_mem] at hb
  have h2 := hall e he hb.1
  rcases hb.2 with h3 | h3
  · rw [h3, listed_false hi] at h2; cases h2
  · rw [listed_false (hD _ h3)] at h2; cases h2
theorem wpAnyL_first {i : Nat} {oi : Oper} {v : Value} {D : List Nat} (hi : ops[i]? = some oi) (hsel : ∀ (j : Nat) (o : Oper) cs b, ops[j]? = some o → o.op ≠ .select cs b)
    (hQ : ∀ c a w, Q (.panic c) (a.put oi.dst v) w → Q (.panic c) a w) (hSi : ∀ p, p ∈ S → p.1 ≠ some i) (hw : waitsB md ops i D = true) :
    ∀ (fuel : Nat) (listed : Array Bool) (a : Act) (w : World),
      (∀ j oj, ops[j]? = some oj → j ≠ i → listed.getD j true = false → (∀ e ∈ oj.after, Region.binds md e = true → e.on ≠ i) → oi.apart ops oj = true) →
      i ∈ Region.ready md ops listed → (∀ k, k ∈ D → listed.getD k true = false) → YieldsIf P ops (S.of D) oi v a → S.at listed w →
      wpAnyL P md ops Q S fuel (listed.setIfInBounds i true) (a.put oi.dst v) w → wpAnyL P md ops Q S (fuel + 1) listed a w := by
  have hmono : ∀ (listed : Array Bool) (j : Nat) (w : World), S.at listed w → S.at (listed.setIfInBounds j true) w := fun listed j w h p hp hk => h p hp (fun k e => by
    have h1 := hk k e
    by_cases hjk : j = k
    · subst hjk
      rcases Nat.lt_or_ge j listed.size with h' | h'
      · simp [h'] at h1
      · simp [Array.getElem?_eq_none h'] at h1
    · rwa [getD_set_ne true hjk] at h1)
  intro fuel
  induction fuel with
  | zero =>
    intro listed a w _ hr hDl hy hS H
    refine ⟨fun h => (by rw [h] at hr; cases hr), fun j hj => ?_⟩
    by_cases hji : j = i
    · subst hji; exact hy.wpOp hi (Facts.at_of hS hDl) ⟨hmono _ _ _ hS, H⟩
    · have := ready_mono hj hji
      rw [H.1] at this
      cases this
  | succ fuel ih =>
    intro listed a w hfree hr hDl hy hS H
    refine ⟨fun h => (by rw [h] at hr; cases hr), fun j hj => ?_⟩
    by_cases hji : j = i
    · subst hji; exact hy.wpOp hi (Facts.at_of hS hDl) ⟨hmono _ _ _ hS, H⟩
    · have h1 := H.2 j (ready_mono hj hji)
      obtain ⟨hjun, oj, hoj, hall⟩ := mem_ready.1 hj
      have hiu := (mem_ready.1 hr).1
      have hjD := waits_ready hw hiu hDl hj
      have hnot : ∀ e ∈ oj.after, Region.binds md e = true → e.on ≠ i := fun e he hb heq => by
        have h1 := hall e he hb
        rw [heq, listed_false hiu] at h1
        cases h1
      have h2 := wpOp_putIf hoj (hfree j oj hoj hji hjun hnot) (fun cs b => hsel i oi cs b hi) (fun cs b => hsel j oj cs b hoj) hQ hy h1
      have hfree' : ∀ k ok, ops[k]? = some ok → k ≠ i → (listed.setIfInBounds j true).getD k true = false →
          (∀ e ∈ ok.after, Region.binds md e = true → e.on ≠ i) → oi.apart ops ok = true := fun k ok hk hki hun hno => by
        refine hfree k ok hk hki ?_ hno
        by_cases hjk : j = k
        · subst hjk; exact hjun
        · rwa [getD_set_ne true hjk] at hun
      refine wpOp_mono (fun a' w' h3 => ?_) h2
      have hS' : S.at (listed.setIfInBounds j true) w' := fun p hp hk => h3.2.1 p hp (fun k e => by
        have hik : i ≠ k := fun hik => hSi p hp (by rw [e, hik])
        rw [Array.setIfInBounds_comm _ _ (Ne.symm hji), getD_set_ne true hik]
        exact hk k e)
      refine ⟨hS', ih (listed.setIfInBounds j true) a' w' hfree' (ready_mono hr (Ne.symm hji)) (fun k hk => ?_) h3.1 hS' ?_⟩
      · have hjk : j ≠ k := fun e => hjD (e ▸ hk)
        rw [getD_set_ne true hjk]
        exact hDl k hk
      · rw [Array.setIfInBounds_comm _ _ hji]
        exact h3.2.2
/-- Take number 'i' first. -/
theorem wpAnyL_take {i : Nat} {oi : Oper} {v : Value} {D : List Nat} {fuel : Nat} {listed : Array Bool} {a : Act} {w : World} (hc : (Region.noSelect ops && Region.free md ops listed i && (Region.ready md ops listed).contains i && waitsB md ops i D && D.all (fun k => !listed.getD k true) && S.all (fun p => p.1 != some i)) = true) (hi : ops[i]? = some oi)
    (hQ : ∀ c a w, Q (.panic c) (a.put oi.dst v) w → Q (.panic c) a w) (hy : YieldsIf P ops (S.of D) oi v a) (hS : S.at listed w)
    (h : wpAnyL P md ops Q S fuel (listed.setIfInBounds i true) (a.put oi.dst v) w) : wpAnyL P md ops Q S (fuel + 1) listed a w := by
  simp only [Bool.and_eq_true, List.all_eq_true, Bool.not_eq_true', bne_iff_ne] at hc
  obtain ⟨⟨⟨⟨⟨h1, h2⟩, h3⟩, h4⟩, h5⟩, h6⟩ := hc
  exact wpAnyL_first hi (Region.noSelect_spec h1) hQ h6 h4 fuel listed a w (Region.free_spec hi h2) (by simpa using h3) h5 hy hS h
theorem wpAnyL_done {listed : Array Bool} {a : Act} {w : World} (hr : Region.ready md ops listed = []) (h : Q .normal a w) : ∀ fuel, wpAnyL P md ops Q S fuel listed a w
  | 0 => ⟨hr, h⟩
  | _ + 1 => ⟨fun _ => h, by rw [hr]; simp⟩
/-- Each of those that may come up. -/
def AllL (P : Program) (md : Region.Mode) (ops : Array Oper) (Q : Exit → Act → World → Prop) (S : Facts) (fuel : Nat) (listed : Array Bool) (a : Act) (w : World) : List Nat → Prop
  | [] => True
  | i :: rs => wpOp P ops Q i (fun a' w' => S.at (listed.setIfInBounds i true) w' ∧ wpAnyL P md ops Q S fuel (listed.setIfInBounds i true) a' w') a w ∧ AllL P md ops Q S fuel listed a w rs
theorem wpAnyL_ready {rs : List Nat} {fuel : Nat} {listed : Array Bool} {a : Act} {w : World} (hr : Region.ready md ops listed = rs) (hne : rs ≠ []) (h : AllL P md ops Q S fuel listed a w rs) : wpAnyL P md ops Q S (fuel + 1) listed a w := by
  refine ⟨fun h0 => absurd (hr ▸ h0) hne, fun i hi => ?_⟩
  rw [hr] at hi
  clear hr hne
  induction rs with
  | nil => cases hi
  | cons j rs ih =>
    rcases List.mem_cons.1 hi with rfl | hi
    · exact h.1
    · exact ih h.2 hi
theorem AllL.cons {i : Nat} {o : Oper} {rs : List Nat} {fuel : Nat} {listed : Array Bool} {a : Act} {w : World} (ho : ops[i]? = some o)
    (h : ∀ K : Act → World → Prop, Hid (∀ a' w', S.at (listed.setIfInBounds i true) w' → wpAnyL P md ops Q S fuel (listed.setIfInBounds i true) a' w' → K a' w') → if Region.wanted o (yielded ops a.tmps) = true then o.wp P a w K Q else K (a.put o.dst undef) w)
    (hs : AllL P md ops Q S fuel listed a w rs) : AllL P md ops Q S fuel listed a w (i :: rs) := by
  refine ⟨?_, hs⟩
  have := h (fun a' w' => S.at (listed.setIfInBounds i true) w' ∧ wpAnyL P md ops Q S fuel (listed.setIfInBounds i true) a' w') (Lib.hid (fun a' w' h1 h2 => ⟨h1, h2⟩))
  unfold wpOp
  simp only [ho]
  split
  · rename_i hw; rw [if_pos hw] at this; exact .inl this
  · rename_i hw; rw [if_neg hw] at this; exact this
theorem AllL.nil {fuel : Nat} {listed : Array Bool} {a : Act} {w : World} : AllL P md ops Q S fuel listed a w [] := trivial
theorem wp_region_L (S : Facts) {id : Nat} {a : Act} {w : World} (hm : P.follows .mixedOrders = true)
    (h : wpAnyL P .any ops Q S ops.size (Array.replicate ops.size false) a w.drew) : (Code.region id ops true).wp P Q a w :=
  wp_region_any hm (wpAny_of_L _ _ _ _ h)

/-! ### the steps of a script -/
def GoL (P : Program) (ops : Array Oper) (Q : Exit → Act → World → Prop) (S : Facts) (fuel : Nat) (listed : Array Bool) (a : Act) (w : World) : Prop := S.at listed w → wpAnyL P .any ops Q S fuel listed a w
theorem GoL.begin (S : Facts) {id : Nat} {a : Act} {w : World} (hm : P.follows .mixedOrders = true) (hS : S.at (Array.replicate ops.size false) w.drew)
    (h : GoL P ops Q S ops.size (Array.replicate ops.size false) a w.drew) : (Code.region id ops true).wp P Q a w := wp_region_L S hm (h hS)
theorem Facts.at_mono {S : Facts} {listed : Array Bool} {j : Nat} {w : World} (h : S.at listed w) : S.at (listed.setIfInBounds j true) w := fun p hp hk => h p hp (fun k e => by
    have h1 := hk k e
    by_cases hjk : j = k
    · subst hjk
      rcases Nat.lt_or_ge j listed.size with h' | h'
      · simp [h'] at h1
      · simp [Array.getElem?_eq_none h'] at h1
    · rwa [getD_set_ne true hjk] at h1)
theorem GoL.take {S : Facts} (i : Nat) (D : List Nat) {oi : Oper} {v : Value} {fuel : Nat} {listed : Array Bool} {a : Act} {w : World} (hc : (Region.noSelect ops && Region.free .any ops listed i && (Region.ready .any ops listed).contains i && waitsB .any ops i D && D.all (fun k => !listed.getD k true) && S.all (fun p => p.1 != some i)) = true) (hi : ops[i]? = some oi)
    (hQ : ∀ c a w, Q (.panic c) (a.put oi.dst v) w → Q (.panic c) a w) (hy : YieldsIf P ops (S.of D) oi v a)
    (h : GoL P ops Q S fuel (listed.setIfInBounds i true) (a.put oi.dst v) w) : GoL P ops Q S (fuel + 1) listed a w :=
  fun hS => wpAnyL_take hc hi hQ hy hS (h (Facts.at_mono hS))
theorem GoL.ready {S : Facts} (rs : List Nat) {fuel : Nat} {listed : Array Bool} {a : Act} {w : World} (hr : Region.ready .any ops listed = rs) (hne : rs ≠ []) (h : AllL P .any ops Q S fuel listed a w rs) : GoL P ops Q S (fuel + 1) listed a w :=
  fun _ => wpAnyL_ready hr hne h
theorem GoL.one {S : Facts} {i : Nat} {o : Oper} {rs : List Nat} {fuel : Nat} {listed : Array Bool} {a : Act} {w : World} (ho : ops[i]? = some o)
    (h : ∀ K : Act → World → Prop, Hid (∀ a' w', S.at (listed.setIfInBounds i true) w' → GoL P ops Q S fuel (listed.setIfInBounds i true) a' w' → K a' w') → if Region.wanted o (yielded ops a.tmps) = true then o.wp P a w K Q else K (a.put o.dst undef) w)
    (hs : AllL P .any ops Q S fuel listed a w rs) : AllL P .any ops Q S fuel listed a w (i :: rs) :=
  AllL.cons ho (fun K hK => h K (Lib.hid (fun a' w' h1 h2 => hK.out a' w' h1 (h2 h1)))) hs
theorem GoL.done {S : Facts} {listed : Array Bool} {a : Act} {w : World} {fuel : Nat} (hr : Region.ready .any ops listed = []) (h : Q .normal a w) : GoL P ops Q S fuel listed a w := fun _ => wpAnyL_done hr h _
def inD (D : List Nat) : Option Nat → Bool
  | some k => D.contains k
  | none => true
theorem Facts.get {S : Facts} {D : List Nat} {w : World} (h : S.of D w) (n : Nat) {k : Option Nat} {f : World → Prop} (hn : S[n]? = some (k, f)) (hk : inD D k = true) : f w :=
  h _ (List.mem_of_getElem? hn) (fun k' e => by
    simp only at e
    subst e
    simpa [inD] using hk)
def gone (listed : Array Bool) : Option Nat → Bool
  | some k => listed.getD k true
  | none => false
theorem Facts.nil_at {listed : Array Bool} {w : World} : Facts.at [] listed w := fun p hp => by cases hp
theorem Facts.cons_at {k : Option Nat} {f : World → Prop} {S : Facts} {listed : Array Bool} {w : World} (h : gone listed k = true ∨ f w) (hs : S.at listed w) : Facts.at ((k, f) :: S) listed w := fun p hp hk => by
  rcases List.mem_cons.1 hp with rfl | hp
  · rcases h with h | h
    · cases k with
      | none => cases h
      | some k =>
        have h1 : listed.getD k true = true := h
        rw [hk k rfl] at h1
        cases h1
    · exact h
  · exact hs p hp hk
end
end Go.Proofs.YtnnpjjehecbljaaGreatDoor

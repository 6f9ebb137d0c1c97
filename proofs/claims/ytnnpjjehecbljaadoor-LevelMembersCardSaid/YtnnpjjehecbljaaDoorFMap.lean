/-
  Maps keyed by integers that a call lays out of a literal.
-/
import Derived.Test.YtnnpjjehecbljaaDoorFBase
import Derived.MapKept
import Derived.Carry
namespace Go.Proofs.YtnnpjjehecbljaaDoor
open Go.RowKit

def imEnt (κ : IntKind) : Nat → List (Int × Value) → List MapEntry
  | _, [] => []
  | i, (k, v) :: r => { key := .int κ k, val := v, born := i } :: imEnt κ (i + 1) r
def imObj (κ : IntKind) (l : List (Int × Value)) : Obj := .map (imEnt κ 0 l).toArray l.length
def imLook (l : List (Int × Value)) (k : Int) : Option Value := (l.find? (fun p => k == p.1)).map (·.2)

theorem imEnt_snoc (κ : IntKind) (l : List (Int × Value)) (k : Int) (v : Value) : ∀ i, imEnt κ i (l ++ [(k, v)]) = imEnt κ i l ++ [{ key := .int κ k, val := v, born := i + l.length }] := by
  induction l with
  | nil => intro i; simp [imEnt]
  | cons p l ih => intro i; obtain ⟨a, b⟩ := p; simp [imEnt, ih]; omega

theorem findNow_im (κ κ' : IntKind) (k : Int) (l : List (Int × Value)) : ∀ i j, (Instr.findNow (.int κ') (.int κ k) (imEnt κ i l) j).map (fun o => o.map (·.2)) = some (imLook l k) := by
  induction l with
  | nil => intro i j; rfl
  | cons p l ih =>
    intro i j
    obtain ⟨a, b⟩ := p
    by_cases h : (k == a) = true
    · simp [imEnt, Instr.findNow, Instr.sameNow, h, imLook]
    · have h' : (k == a) = false := by simpa using h
      simp only [imEnt, Instr.findNow, Instr.sameNow, h', if_true]
      rw [ih]
      simp [imLook, h']

theorem wpList_skip {P : Program} {ops : Array Oper} {Q : Exit → Act → World → Prop} {rest : List Oper} {o : Oper} {a : Act} {w w1 : World} (hg : o.guard = none)
    (hrun : (execOp a.eval o).run P w = .ok .skip w1) (h : wpList P ops Q rest (a.put o.dst undef) w1) : wpList P ops Q (o :: rest) a w :=
  wpList_plain hg fun K hK => by
    unfold Oper.wp
    rw [hrun]
    exact hK _ _ h

section
variable {P : Program} {ops : Array Oper} {Q : Exit → Act → World → Prop} {rest : List Oper} {a : Act} {w : World} {d : Option Tmp} {ty : TypeId} {pos : String} {af : Array Edge}

theorem run_key (kt : TypeId) (κ : IntKind) (hk : P.underlying kt = some (.int κ)) (b : Bool) (k : Int) (w : World) : (Instr.checkKey b 10000 kt (.int κ k)).run P w = .ok () w :=
  MapKept.run_checkKey hk (by simp [MapKept.IsKey]) b 9999

theorem wpList_makeMap (t : TypeId) (κ : IntKind) (h : ∀ r w', Hid (r = w.heap.size) → Hid (w'.heap[r]? = some (imObj κ [])) → Hid (Fr [] w w') → wpList P ops Q rest (a.put d (.map (some r))) w') :
    wpList P ops Q (⟨d, .makeMap t none, ty, pos, af, none⟩ :: rest) a w := by
  have hr := run_makeMap (P := P) t w
  refine wpList_run rfl (v := .map (some w.heap.size)) (w1 := w.alloc (.map #[] 0)) ?_ (h _ _ rfl ?_ ((Fr.refl _ _).alloc _))
  · simp [execOp, hr, go_sem]
  · show (w.heap.push _)[w.heap.size]? = _
    simp [imObj, imEnt]

theorem wpList_insert (t kt et : TypeId) (ht : P.underlying t = some (.map kt et)) (κ : IntKind) (hk : P.underlying kt = some (.int κ)) (m x y : Operand) (r : Nat) (k : Int) (v : Value) (l : List (Int × Value))
    (hm : a.eval m = .map (some r)) (hx : a.eval x = .int κ k) (hy : a.eval y = v) (hb : Hid (w.heap[r]? = some (imObj κ l))) (hl : imLook l k = none)
    (h : ∀ w', Hid (w'.heap[r]? = some (imObj κ (l ++ [(k, v)]))) → Hid (Fr [r] w w') → wpList P ops Q rest (a.put d undef) w') :
    wpList P ops Q (⟨d, .insert t m x y, ty, pos, af, none⟩ :: rest) a w := by
  have hrun : (Instr.mapUpdate t (.map (some r)) (.int κ k) v).run P w = .ok () { w with heap := w.heap.setIfInBounds r (imObj κ (l ++ [(k, v)])) } := by
    have hb' : w.heap[r]? = some (.map (imEnt κ 0 l).toArray l.length) := hb.out
    have hf := findNow_im κ κ k l 0 0
    rw [hl] at hf
    have hf' : Instr.findNow (.int κ) (.int κ k) (imEnt κ 0 l) 0 = some none := by
      revert hf
      cases Instr.findNow (.int κ) (.int κ k) (imEnt κ 0 l) 0 with
      | none => simp
      | some o => cases o <;> simp
    have hc := fun b => run_key (P := P) kt κ hk b k w
    simp [Instr.mapUpdate, run_underlying ht, hc, run_underlying hk, Instr.findKey, getObj, setObj, Sem.run, hb', hf', Result.andThen, imObj, imEnt_snoc]
  refine wpList_skip rfl (w1 := { w with heap := w.heap.setIfInBounds r (imObj κ (l ++ [(k, v)])) }) ?_ (h _ ?_ ?_)
  · generalize a.eval = ρ at hm hx hy
    simp [execOp, hm, hx, hy, hrun, go_sem]
  · show (w.heap.setIfInBounds r _)[r]? = _
    rw [Array.getElem?_setIfInBounds]
    simp [blk_lt hb.out]
  · refine ⟨rfl, rfl, rfl, by simp, fun i _ hn => ?_⟩
    show (w.heap.setIfInBounds r _)[i]? = _
    rw [Array.getElem?_setIfInBounds, if_neg (by simpa using fun e => hn (by simp [e]))]

/-- The same, with what has become of the world since the map was made. -/
theorem wpList_insertF (t kt et : TypeId) (ht : P.underlying t = some (.map kt et)) (κ : IntKind) (hk : P.underlying kt = some (.int κ)) (m x y : Operand) (r : Nat) (k : Int) (v : Value) (l : List (Int × Value)) (wz : World)
    (hm : a.eval m = .map (some r)) (hx : a.eval x = .int κ k) (hy : a.eval y = v) (hb : Hid (w.heap[r]? = some (imObj κ l))) (hf : Hid (Fr [r] wz w)) (hl : imLook l k = none)
    (h : ∀ w', Hid (w'.heap[r]? = some (imObj κ (l ++ [(k, v)]))) → Hid (Fr [r] wz w') → wpList P ops Q rest (a.put d undef) w') :
    wpList P ops Q (⟨d, .insert t m x y, ty, pos, af, none⟩ :: rest) a w :=
  wpList_insert t kt et ht κ hk m x y r k v l hm hx hy hb hl (fun w' h1 h2 => h w' h1 (hf.out.trans1 h2.out))

theorem run_look (t kt et : TypeId) (ht : P.underlying t = some (.map kt et)) (κ : IntKind) (hk : P.underlying kt = some (.int κ)) (z : Value) (hz : ∀ w, (zeroValue et).run P w = .ok z w)
    (r : Nat) (k : Int) (l : List (Int × Value)) (hb : w.heap[r]? = some (imObj κ l)) (ok : Bool) :
    (Instr.lookup t (.map (some r)) (.int κ k) ok).run P w = .ok (if ok then .tuple #[(imLook l k).getD z, .bool (imLook l k).isSome] else (imLook l k).getD z) w := by
  have hb' : w.heap[r]? = some (.map (imEnt κ 0 l).toArray l.length) := hb
  have hf := findNow_im κ κ k l 0 0
  have hc := fun b => run_key (P := P) kt κ hk b k w
  cases hn : Instr.findNow (.int κ) (.int κ k) (imEnt κ 0 l) 0 with
  | none => rw [hn] at hf; simp at hf
  | some o =>
    rw [hn] at hf
    simp only [Option.map_some, Option.some.injEq] at hf
    rw [← hf]
    cases o with
    | none => simp [Instr.lookup, run_underlying ht, hc, run_underlying hk, Instr.findKey, getObj, Sem.run, hb', hn, Result.andThen, hz]
    | some p => simp [Instr.lookup, run_underlying ht, hc, run_underlying hk, Instr.findKey, getObj, Sem.run, hb', hn, Result.andThen]

theorem wpList_look (t kt et : TypeId) (ht : P.underlying t = some (.map kt et)) (κ : IntKind) (hk : P.underlying kt = some (.int κ)) (z : Value) (hz : ∀ w, (zeroValue et).run P w = .ok z w) (m x : Operand) (r : Nat) (k : Int)
    (l : List (Int × Value)) (hm : a.eval m = .map (some r)) (hx : a.eval x = .int κ k) (hb : Hid (w.heap[r]? = some (imObj κ l))) (ok : Bool) (res : Option Value) (hres : imLook l k = res)
    (h : wpList P ops Q rest (a.put d (if ok then .tuple #[res.getD z, .bool res.isSome] else res.getD z)) w) :
    wpList P ops Q (⟨d, .lookup t m x ok, ty, pos, af, none⟩ :: rest) a w := by
  have hrun := run_look (w := w) t kt et ht κ hk z hz r k l hb.out ok
  rw [hres] at hrun
  refine wpList_run rfl ?_ h
  generalize a.eval = ρ at hm hx
  simp [execOp, hm, hx, hrun, go_sem]
end

end Go.Proofs.YtnnpjjehecbljaaDoor

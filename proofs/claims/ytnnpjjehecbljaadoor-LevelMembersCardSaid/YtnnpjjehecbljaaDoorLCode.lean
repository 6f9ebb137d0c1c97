/-
  A config's bytes, put and got: in plain Lean.
-/
import Derived.Test.YtnnpjjehecbljaaDoorLKeep
import Derived.Test.YtnnpjjehecbljaaDoorFPlain
namespace Go.Proofs.YtnnpjjehecbljaaDoor
open Go.RowKit

/-- A number read: of what is left, and whether it is bad. -/
def varL (st : List UInt8 × Bool) : Int × (List UInt8 × Bool) :=
  match varGo st.1 0 0 with
  | some (n, k) => ((n : Int), (st.1.drop k, st.2))
  | none => (0, ([], true))
/-- A small number read: what is beyond 7 makes it bad. -/
def smL (st : List UInt8 × Bool) : Int × (List UInt8 × Bool) :=
  if (varL st).1 ≤ 7 then varL st else ((varL st).1, ([], true))
def memsL : Nat → List UInt8 × Bool → List Int × List Int × (List UInt8 × Bool)
  | 0, st => ([], [], st)
  | n + 1, st => if st.2 = true then ([], [], st) else ((smL st).1 :: (memsL n (smL (smL st).2).2).1, (smL (smL st).2).1 :: (memsL n (smL (smL st).2).2).2.1, (memsL n (smL (smL st).2).2).2.2)
def rawC (l : List UInt8) : Cfg × (List UInt8 × Bool) × Int :=
  (⟨(memsL (smL (l, false)).1.toNat (smL (l, false)).2).1, (memsL (smL (l, false)).1.toNat (smL (l, false)).2).2.1, (smL (memsL (smL (l, false)).1.toNat (smL (l, false)).2).2.2).1,
    (smL (smL (memsL (smL (l, false)).1.toNat (smL (l, false)).2).2.2).2).1 == 1⟩,
   (smL (smL (memsL (smL (l, false)).1.toNat (smL (l, false)).2).2.2).2).2, (smL (smL (memsL (smL (l, false)).1.toNat (smL (l, false)).2).2.2).2).1)
def getC (l : List UInt8) : Cfg × Bool :=
  if (rawC l).2.1.2 = true ∨ 0 < (rawC l).2.1.1.length ∨ 1 < (rawC l).2.2 ∨ (rawC l).1.ok = false then (noCfg, false) else ((rawC l).1, true)

def byteI (n : Int) : UInt8 := UInt8.ofNat n.toNat
def pairsL : List Int → List Int → List UInt8
  | m :: M, g :: G => byteI m :: byteI g :: pairsL M G
  | _, _ => []
def putC (c : Cfg) : List UInt8 := byteI (c.M.length : Nat) :: (pairsL c.M c.G ++ [byteI c.lvl, byteI (if c.fin = true then 1 else 0)])

theorem varGo_small {b : UInt8} (h : b.toNat < 128) (t : List UInt8) : varGo (b :: t) 0 0 = some (b.toNat, 1) := by
  rw [varGo, if_neg (by decide), if_neg (by omega), if_neg (by omega)]
  unfold vS
  have h1 : b.toNat % 128 * 2 ^ (7 * 0) % 18446744073709551616 = b.toNat := by
    rw [Nat.mod_eq_of_lt h]
    show b.toNat * 1 % 18446744073709551616 = b.toNat
    omega
  rw [h1, Nat.zero_or]
theorem byteI_nat {n : Int} (h0 : 0 ≤ n) (h : n ≤ 7) : ((byteI n).toNat : Int) = n := by
  unfold byteI
  rw [UInt8.toNat_ofNat']
  omega
theorem smL_byte {n : Int} (h0 : 0 ≤ n) (h : n ≤ 7) (t : List UInt8) (b : Bool) : smL (byteI n :: t, b) = (n, (t, b)) := by
  have hb := byteI_nat h0 h
  have hv : varL (byteI n :: t, b) = (n, (t, b)) := by
    unfold varL
    rw [varGo_small (by omega)]
    show (((byteI n).toNat : Int), (t, b)) = _
    rw [hb]
  unfold smL
  rw [hv, if_pos h]
theorem smL_nil (b : Bool) : smL ([], b) = (0, ([], true)) := rfl
theorem memsL_bad (n : Nat) : memsL n ([], true) = ([], [], ([], true)) := by
  cases n with
  | zero => rfl
  | succ n => rw [memsL, if_pos rfl]

def Small (M : List Int) : Prop := ∀ y, y ∈ M → 0 ≤ y ∧ y ≤ 7
theorem pairsL_length : ∀ {M G : List Int}, G.length = M.length → (pairsL M G).length = 2 * M.length
  | [], [], _ => rfl
  | m :: M, g :: G, h => by
    show (byteI m :: byteI g :: pairsL M G).length = _
    rw [List.length_cons, List.length_cons, pairsL_length (by simpa using h), List.length_cons]
    omega
theorem memsL_put : ∀ {M G : List Int} (t : List UInt8), G.length = M.length → Small M → Small G → memsL M.length (pairsL M G ++ t, false) = (M, G, (t, false))
  | [], [], t, _, _, _ => rfl
  | m :: M, g :: G, t, h, h1, h2 => by
    have a := h1 m List.mem_cons_self
    have b := h2 g List.mem_cons_self
    show memsL (M.length + 1) (byteI m :: byteI g :: (pairsL M G ++ t), false) = _
    rw [memsL, if_neg Bool.false_ne_true, smL_byte a.1 a.2, smL_byte b.1 b.2, memsL_put t (by simpa using h) (fun y hy => h1 y (List.mem_cons_of_mem _ hy)) (fun y hy => h2 y (List.mem_cons_of_mem _ hy))]
theorem memsL_short : ∀ {M G : List Int} (k : Nat), G.length = M.length → Small M → Small G → k < 2 * M.length → (memsL M.length ((pairsL M G).take k, false)).2.2 = ([], true)
  | [], [], k, _, _, _, hk => absurd hk (by simp)
  | m :: M, g :: G, k, h, h1, h2, hk => by
    have a := h1 m List.mem_cons_self
    have b := h2 g List.mem_cons_self
    match k with
    | 0 =>
      show (memsL (M.length + 1) ([], false)).2.2 = _
      rw [memsL, if_neg Bool.false_ne_true, smL_nil, smL_nil, memsL_bad]
    | 1 =>
      show (memsL (M.length + 1) ([byteI m], false)).2.2 = _
      rw [memsL, if_neg Bool.false_ne_true, smL_byte a.1 a.2, smL_nil, memsL_bad]
    | k + 2 =>
      show (memsL (M.length + 1) (byteI m :: byteI g :: (pairsL M G).take k, false)).2.2 = _
      rw [memsL, if_neg Bool.false_ne_true, smL_byte a.1 a.2, smL_byte b.1 b.2]
      show (memsL M.length ((pairsL M G).take k, false)).2.2 = _
      exact memsL_short k (by simpa using h) (fun y hy => h1 y (List.mem_cons_of_mem _ hy)) (fun y hy => h2 y (List.mem_cons_of_mem _ hy)) (by simp at hk; omega)

theorem rightL_small {lvl : Int} (h0 : 0 ≤ lvl) : ∀ {M G : List Int} {last : Int}, 0 ≤ last → G.length = M.length → rightL M G lvl last = true → Small M ∧ Small G
  | [], [], _, _, _, _ => ⟨fun _ hy => absurd hy List.not_mem_nil, fun _ hy => absurd hy List.not_mem_nil⟩
  | m :: M, g :: G, last, hl, h, hr => by
    rw [rightL_cons] at hr
    obtain ⟨i1, i2⟩ := rightL_small h0 (M := M) (G := G) (last := m) (by omega) (by simpa using h) hr.2
    refine ⟨fun y hy => ?_, fun y hy => ?_⟩
    · rcases List.mem_cons.1 hy with rfl | hy
      · omega
      · exact i1 y hy
    · rcases List.mem_cons.1 hy with rfl | hy
      · omega
      · exact i2 y hy
theorem putC_length (c : Cfg) (h : c.ok = true) : (putC c).length = 3 + 2 * c.M.length := by
  obtain ⟨-, -, h3, -, -, -, -⟩ := (Cfg.ok_iff c).1 h
  unfold putC
  rw [List.length_cons, List.length_append, pairsL_length h3]
  simp
  omega
theorem finI (b : Bool) : (0 : Int) ≤ (if b = true then 1 else 0) ∧ (if b = true then (1 : Int) else 0) ≤ 1 := by cases b <;> decide
theorem rawC_put (c : Cfg) (h : c.ok = true) (t : List UInt8) : rawC (putC c ++ t) = (c, (t, false), if c.fin = true then 1 else 0) := by
  obtain ⟨h1, h2, h3, h4, h5, h6, h7⟩ := (Cfg.ok_iff c).1 h
  obtain ⟨s1, s2⟩ := rightL_small (by omega) (by decide) h3 h7
  have e1 : smL (putC c ++ t, false) = (((c.M.length : Nat) : Int), (pairsL c.M c.G ++ (byteI c.lvl :: byteI (if c.fin = true then 1 else 0) :: t), false)) := by
    have : putC c ++ t = byteI (c.M.length : Nat) :: (pairsL c.M c.G ++ (byteI c.lvl :: byteI (if c.fin = true then 1 else 0) :: t)) := by
      unfold putC
      simp
    rw [this]
    exact smL_byte (by omega) (by omega) _ _
  have e2 : smL (byteI c.lvl :: byteI (if c.fin = true then 1 else 0) :: t, false) = (c.lvl, (byteI (if c.fin = true then 1 else 0) :: t, false)) := smL_byte (by omega) (by omega) _ _
  have e3 : smL (byteI (if c.fin = true then 1 else 0) :: t, false) = ((if c.fin = true then 1 else 0), (t, false)) := smL_byte (finI _).1 (by have := (finI c.fin).2; omega) _ _
  have e4 : (((c.M.length : Nat) : Int)).toNat = c.M.length := by omega
  unfold rawC
  rw [e1]
  simp only [e4, memsL_put _ h3 s1 s2, e2, e3]
  cases c with
  | mk M G lvl fin => cases fin <;> rfl
theorem getC_put (c : Cfg) (h : c.ok = true) : getC (putC c) = (c, true) := by
  have e := rawC_put c h []
  rw [List.append_nil] at e
  unfold getC
  rw [e, if_neg]
  rintro (h' | h' | h' | h')
  · cases h'
  · exact absurd (show 0 < ([] : List UInt8).length from h') (by decide)
  · have := (finI c.fin).2; have h'' : (1 : Int) < (if c.fin = true then 1 else 0) := h'; omega
  · have h'' : c.ok = false := h'; rw [h] at h''; cases h''
theorem getC_long (c : Cfg) (h : c.ok = true) (x : UInt8) : getC (putC c ++ [x]) = (noCfg, false) := by
  unfold getC
  rw [rawC_put c h, if_pos (Or.inr (Or.inl (show 0 < [x].length from Nat.zero_lt_one)))]
theorem smL_bad (b : Bool) : (smL ([], b)).2 = ([], true) := rfl
theorem getC_short (c : Cfg) (h : c.ok = true) (k : Nat) (hk : k < 3 + 2 * c.M.length) : getC ((putC c).take k) = (noCfg, false) := by
  obtain ⟨h1, h2, h3, h4, h5, h6, h7⟩ := (Cfg.ok_iff c).1 h
  obtain ⟨s1, s2⟩ := rightL_small (by omega) (by decide) h3 h7
  have hlen := pairsL_length h3
  suffices hb : (rawC ((putC c).take k)).2.1.2 = true by
    unfold getC
    rw [if_pos (Or.inl hb)]
  match k with
  | 0 =>
    show (rawC []).2.1.2 = true
    unfold rawC
    rw [smL_nil]
    show (smL (smL (memsL 0 ([], true)).2.2).2).2.2 = true
    rfl
  | k + 1 =>
    have e1 : smL ((putC c).take (k + 1), false) = (((c.M.length : Nat) : Int), ((pairsL c.M c.G ++ [byteI c.lvl, byteI (if c.fin = true then 1 else 0)]).take k, false)) := by
      show smL (byteI (c.M.length : Nat) :: (pairsL c.M c.G ++ [byteI c.lvl, byteI (if c.fin = true then 1 else 0)]).take k, false) = _
      exact smL_byte (by omega) (by omega) _ _
    have e4 : (((c.M.length : Nat) : Int)).toNat = c.M.length := by omega
    unfold rawC
    rw [e1]
    simp only [e4]
    by_cases hk1 : k < 2 * c.M.length
    · rw [List.take_append_of_le_length (by omega), memsL_short k h3 s1 s2 hk1]
      rfl
    · have e5 : (pairsL c.M c.G ++ [byteI c.lvl, byteI (if c.fin = true then 1 else 0)]).take k = pairsL c.M c.G ++ [byteI c.lvl, byteI (if c.fin = true then 1 else 0)].take (k - 2 * c.M.length) := by
        rw [List.take_append, hlen, List.take_of_length_le (by omega)]
      rw [e5, memsL_put _ h3 s1 s2]
      have hj : k - 2 * c.M.length = 0 ∨ k - 2 * c.M.length = 1 := by omega
      rcases hj with hj | hj
      · rw [hj]; rfl
      · rw [hj]
        show (smL (smL ([byteI c.lvl], false)).2).2.2 = true
        rw [smL_byte (by omega) (by omega)]
        rfl
end Go.Proofs.YtnnpjjehecbljaaDoor

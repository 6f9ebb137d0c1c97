/-
  However a config goes, it is right: in plain Lean.
-/
import Derived.Test.YtnnpjjehecbljaaDoorLPlain
namespace Go.Proofs.YtnnpjjehecbljaaDoor
open Go.RowKit

theorem rightL_cons {m g : Int} {M G : List Int} {lvl last : Int} : rightL (m :: M) (g :: G) lvl last = true ↔ (last + 1 ≤ m ∧ m ≤ 7 ∧ lvl ≤ g ∧ g ≤ 2) ∧ rightL M G lvl m = true := by
  show (decide (last + 1 ≤ m) && decide (m ≤ 7) && decide (lvl ≤ g) && decide (g ≤ 2) && rightL M G lvl m) = true ↔ _
  simp only [Bool.and_eq_true, decide_eq_true_eq]
  constructor
  · rintro ⟨⟨⟨⟨h1, h2⟩, h3⟩, h4⟩, h5⟩; exact ⟨⟨h1, h2, h3, h4⟩, h5⟩
  · rintro ⟨⟨h1, h2, h3, h4⟩, h5⟩; exact ⟨⟨⟨⟨h1, h2⟩, h3⟩, h4⟩, h5⟩
theorem rightL_weak {M G : List Int} {lvl a b : Int} (hab : b ≤ a) (h : rightL M G lvl a = true) : rightL M G lvl b = true := by
  match M, G with
  | [], _ => simp [rightL]
  | _ :: _, [] => simp [rightL]
  | m :: M, g :: G =>
    rw [rightL_cons] at h ⊢
    exact ⟨⟨by omega, h.1.2.1, h.1.2.2⟩, h.2⟩
theorem rightL_mem {M : List Int} : ∀ {G : List Int} {lvl last : Int}, G.length = M.length → rightL M G lvl last = true → ∀ y, y ∈ M → last < y := by
  induction M with
  | nil => intro G lvl last _ _ y hy; cases hy
  | cons m M ih =>
    intro G lvl last hl h y hy
    match G, hl with
    | g :: G, hl =>
      rw [rightL_cons] at h
      rcases List.mem_cons.1 hy with rfl | hy
      · omega
      · have := ih (by simpa using hl) h.2 y hy; omega
theorem rightL_length {M : List Int} : ∀ {G : List Int} {lvl last : Int}, G.length = M.length → 0 ≤ last → last ≤ 7 → rightL M G lvl last = true → last + M.length ≤ 7 := by
  induction M with
  | nil => intro G lvl last _ _ h7 _; simp; exact h7
  | cons m M ih =>
    intro G lvl last hl h0 h7 h
    match G, hl with
    | g :: G, hl =>
      rw [rightL_cons] at h
      have := ih (by simpa using hl) (by omega) h.1.2.1 h.2
      simp
      omega
theorem posL_cons (m : Int) (M : List Int) (x : Int) : posL (m :: M) x = posL M x + (if m < x then 1 else 0) := by
  unfold posL
  rw [List.countP_cons]
  simp
theorem posL_zero {M : List Int} {x : Int} (h : ∀ y, y ∈ M → x ≤ y) : posL M x = 0 := by
  unfold posL
  rw [List.countP_eq_zero]
  intro y hy
  have := h y hy
  simp
  omega
theorem insL_cons (m : Int) (M : List Int) (k : Nat) (x : Int) : insL (m :: M) (k + 1) x = m :: insL M k x := by simp [insL]
theorem insL_zero (M : List Int) (x : Int) : insL M 0 x = x :: M := by simp [insL]
theorem delL_cons (m : Int) (M : List Int) (k : Nat) : delL (m :: M) (k + 1) = m :: delL M k := by simp [delL]
theorem delL_zero (m : Int) (M : List Int) : delL (m :: M) 0 = M := by simp [delL]
theorem rightL_ins {x : Int} {lvl : Int} (hl1 : lvl ≤ 1) (hx7 : x ≤ 7) {M : List Int} : ∀ {G : List Int} {last : Int}, G.length = M.length → rightL M G lvl last = true → last + 1 ≤ x → x ∉ M → rightL (insL M (posL M x) x) (insL G (posL M x) 1) lvl last = true := by
  induction M with
  | nil =>
    intro G last hl _ hx _
    have : G = [] := List.eq_nil_of_length_eq_zero hl
    subst this
    show rightL [x] [1] lvl last = true
    rw [rightL_cons]
    exact ⟨⟨hx, hx7, hl1, by decide⟩, by simp [rightL]⟩
  | cons m M ih =>
    intro G last hl h hx hn
    match G, hl with
    | g :: G, hl =>
      have hl' : G.length = M.length := by simpa using hl
      rw [rightL_cons] at h
      rw [posL_cons]
      by_cases hm : m < x
      · rw [if_pos hm, insL_cons, insL_cons, rightL_cons]
        exact ⟨h.1, ih hl' h.2 (by omega) (fun hx' => hn (List.mem_cons_of_mem _ hx'))⟩
      · have hne : x ≠ m := fun e => hn (by rw [e]; exact List.mem_cons_self)
        have hz : posL M x = 0 := posL_zero (fun y hy => by have := rightL_mem hl' h.2 y hy; omega)
        rw [if_neg hm, hz, insL_zero, insL_zero, rightL_cons, rightL_cons]
        exact ⟨⟨hx, hx7, hl1, by decide⟩, ⟨by omega, h.1.2.1, h.1.2.2⟩, h.2⟩
theorem rightL_del {x : Int} {lvl : Int} {M : List Int} : ∀ {G : List Int} {last : Int}, G.length = M.length → rightL M G lvl last = true → x ∈ M → rightL (delL M (posL M x)) (delL G (posL M x)) lvl last = true := by
  induction M with
  | nil => intro G last _ _ hx; cases hx
  | cons m M ih =>
    intro G last hl h hx
    match G, hl with
    | g :: G, hl =>
      have hl' : G.length = M.length := by simpa using hl
      rw [rightL_cons] at h
      rw [posL_cons]
      by_cases hm : m < x
      · rw [if_pos hm, delL_cons, delL_cons, rightL_cons]
        have hx' : x ∈ M := by
          rcases List.mem_cons.1 hx with rfl | h'
          · omega
          · exact h'
        exact ⟨h.1, ih hl' h.2 hx'⟩
      · have hz : posL M x = 0 := posL_zero (fun y hy => by
          have := rightL_mem hl' h.2 y hy
          rcases List.mem_cons.1 hx with rfl | h'
          · omega
          · have := rightL_mem hl' h.2 x h'; omega)
        rw [if_neg hm, hz, delL_zero, delL_zero]
        exact rightL_weak (by omega) h.2
theorem rightL_set {lvl y : Int} (h1 : lvl ≤ y) (h2 : y ≤ 2) {M : List Int} : ∀ {G : List Int} {last : Int} (i : Nat), rightL M G lvl last = true → rightL M (G.set i y) lvl last = true := by
  induction M with
  | nil => intro G last i _; simp [rightL]
  | cons m M ih =>
    intro G last i h
    match G, i with
    | [], _ => simp [rightL]
    | g :: G, 0 =>
      rw [List.set_cons_zero, rightL_cons]
      rw [rightL_cons] at h
      exact ⟨⟨h.1.1, h.1.2.1, h1, h2⟩, h.2⟩
    | g :: G, i + 1 =>
      rw [List.set_cons_succ, rightL_cons]
      rw [rightL_cons] at h
      exact ⟨h.1, ih i h.2⟩
theorem rightL_up {lvl : Int} (h1 : 1 ≤ lvl) {M : List Int} : ∀ {G : List Int} {last : Int}, (1 : Int) ∉ G → rightL M G lvl last = true → rightL M G 2 last = true := by
  induction M with
  | nil => intro G last _ _; simp [rightL]
  | cons m M ih =>
    intro G last hn h
    match G with
    | [] => simp [rightL]
    | g :: G =>
      rw [rightL_cons] at h ⊢
      have : g ≠ 1 := fun e => hn (by rw [e]; exact List.mem_cons_self)
      exact ⟨⟨h.1.1, h.1.2.1, by omega, h.1.2.2.2⟩, ih (fun h' => hn (List.mem_cons_of_mem _ h')) h.2⟩
theorem rightL_low {lvl : Int} (h1 : 1 ≤ lvl) {M : List Int} : ∀ {G : List Int} {last : Int}, rightL M G lvl last = true → rightL M G 1 last = true := by
  induction M with
  | nil => intro G last _; simp [rightL]
  | cons m M ih =>
    intro G last h
    match G with
    | [] => simp [rightL]
    | g :: G =>
      rw [rightL_cons] at h ⊢
      exact ⟨⟨h.1.1, h.1.2.1, by omega, h.1.2.2.2⟩, ih h.2⟩
theorem insL_length (l : List Int) (i : Nat) (x : Int) : (insL l i x).length = l.length + 1 := by
  unfold insL
  rw [List.length_append, List.length_cons, List.length_take, List.length_drop]
  omega
theorem delL_length (l : List Int) (i : Nat) (h : i < l.length) : (delL l i).length = l.length - 1 := by
  unfold delL
  rw [List.length_append, List.length_take, List.length_drop]
  omega

theorem Cfg.ok_iff (c : Cfg) : c.ok = true ↔ 1 ≤ c.M.length ∧ c.M.length ≤ 7 ∧ c.G.length = c.M.length ∧ 1 ≤ c.lvl ∧ c.lvl ≤ 2 ∧ (c.fin = true → c.lvl = 2) ∧ rightL c.M c.G c.lvl 0 = true := by
  unfold Cfg.ok
  simp only [Bool.and_eq_true, decide_eq_true_eq]
  constructor
  · rintro ⟨⟨⟨⟨⟨⟨h1, h2⟩, h3⟩, h4⟩, h5⟩, h6⟩, h7⟩
    refine ⟨h1, h2, h3, h4, h5, fun hf => ?_, h7⟩
    rw [hf] at h6
    simp at h6
    omega
  · rintro ⟨h1, h2, h3, h4, h5, h6, h7⟩
    refine ⟨⟨⟨⟨⟨⟨h1, h2⟩, h3⟩, h4⟩, h5⟩, ?_⟩, h7⟩
    cases hf : c.fin with
    | false => rfl
    | true => have := h6 hf; simp; omega
theorem posL_lt {M : List Int} {x : Int} (h : x ∈ M) : posL M x < M.length := by
  unfold posL
  rcases Nat.lt_or_ge (M.countP (· < x)) M.length with h1 | h1
  · exact h1
  · have h2 : M.countP (· < x) = M.length := Nat.le_antisymm (List.countP_le_length) h1
    rw [List.countP_eq_length] at h2
    have := h2 x h
    simp at this

/-- Whatever it is told, a right config stays right; once it is final it stays so. -/
theorem apply_keeps (c : Cfg) (ok : Bool) (kind node level : Int) (hc : c.ok = true) (hn : ok = true → kind = 5 → 1 ≤ node ∧ node ≤ 7) (hv : ok = true → kind = 7 → 1 ≤ level ∧ level ≤ 2) :
    (applyOf c ok kind node level).1.ok = true ∧ (c.fin = true → (applyOf c ok kind node level).1.fin = true) := by
  have hself : c.ok = true ∧ (c.fin = true → c.fin = true) := ⟨hc, fun h => h⟩
  obtain ⟨h1, h2, h3, h4, h5, h6, h7⟩ := (Cfg.ok_iff c).1 hc
  unfold applyOf
  split
  · exact hself
  rename_i hok
  have hok' : ok = true := by cases ok <;> simp_all
  split
  · rename_i hk
    unfold addOf
    split
    · exact hself
    rename_i hcon
    split
    · exact hself
    rename_i hlv
    have hx : node ∉ c.M := by simpa using hcon
    obtain ⟨hn1, hn2⟩ := hn hok' hk
    have hr := rightL_ins (x := node) (lvl := c.lvl) (by omega) hn2 h3 h7 (by omega) hx
    have hl : (insL c.G (posL c.M node) 1).length = (insL c.M (posL c.M node) node).length := by rw [insL_length, insL_length, h3]
    have h8 := rightL_length hl (by decide) (by decide) hr
    rw [insL_length] at h8
    refine ⟨(Cfg.ok_iff _).2 ⟨?_, ?_, hl, h4, h5, h6, hr⟩, fun h => h⟩
    · show 1 ≤ (insL c.M _ node).length; rw [insL_length]; omega
    · show (insL c.M _ node).length ≤ 7; rw [insL_length]; omega
  split
  · unfold removeOf
    split
    · exact hself
    rename_i hcon
    split
    · exact hself
    rename_i hone
    have hx : node ∈ c.M := by simpa using hcon
    have hp := posL_lt hx
    have hr := rightL_del (x := node) h3 h7 hx
    refine ⟨(Cfg.ok_iff _).2 ⟨?_, ?_, ?_, h4, h5, h6, hr⟩, fun h => h⟩
    · show 1 ≤ (delL c.M _).length; rw [delL_length _ _ hp]; omega
    · show (delL c.M _).length ≤ 7; rw [delL_length _ _ hp]; omega
    · show (delL c.G _).length = (delL c.M _).length; rw [delL_length _ _ hp, delL_length _ _ (by omega), h3]
  split
  · rename_i hk
    unfold registerOf
    split
    · exact hself
    split
    · exact hself
    rename_i hlv
    obtain ⟨hv1, hv2⟩ := hv hok' hk
    refine ⟨(Cfg.ok_iff _).2 ⟨h1, h2, ?_, h4, h5, h6, rightL_set (by show c.lvl ≤ level; omega) hv2 _ h7⟩, fun h => h⟩
    show (c.G.set _ level).length = _
    rw [List.length_set, h3]
  split
  · unfold upgradeOf
    split
    · exact hself
    split
    · exact hself
    rename_i hno
    refine ⟨(Cfg.ok_iff _).2 ⟨h1, h2, h3, (by decide : (1 : Int) ≤ 2), (by decide : (2 : Int) ≤ 2), fun _ => rfl, rightL_up h4 (by simpa using hno) h7⟩, fun h => h⟩
  split
  · unfold lowerOf
    split
    · exact hself
    split
    · exact hself
    rename_i hf
    exact ⟨(Cfg.ok_iff _).2 ⟨h1, h2, h3, (by decide : (1 : Int) ≤ 1), (by decide : (1 : Int) ≤ 2), fun h => absurd h hf, rightL_low h4 h7⟩, fun h => absurd h hf⟩
  split
  · unfold finaliseOf
    split
    · exact hself
    rename_i hlv
    split
    · exact hself
    exact ⟨(Cfg.ok_iff _).2 ⟨h1, h2, h3, h4, h5, fun _ => by show c.lvl = 2; omega, h7⟩, fun _ => rfl⟩
  · exact hself
end Go.Proofs.YtnnpjjehecbljaaDoor

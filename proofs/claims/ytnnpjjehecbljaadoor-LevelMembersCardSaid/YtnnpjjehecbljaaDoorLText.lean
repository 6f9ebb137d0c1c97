/-
  level.Text: the contract.
-/
import Derived.Test.YtnnpjjehecbljaaDoorLAppl
import Derived.Test.YtnnpjjehecbljaaDoorSapp
import Derived.Test.YtnnpjjehecbljaaDoorLCode
import Derived.Test.YtnnpjjehecbljaaDoorOrdL
namespace Go.Proofs.YtnnpjjehecbljaaDoor
open Go.RowKit

def itS (n : Int) : ByteArray := ⟨(Lib.decDigits n.toNat).toArray⟩
def pieceS (m g : Int) : ByteArray := itS m ++ ⟨#[58]⟩ ++ itS g
def levS (n : Int) : ByteArray := ⟨#[108, 101, 118, 101, 108, 32]⟩ ++ itS n
def partsC (c : Cfg) : List ByteArray := List.zipWith pieceS c.M c.G ++ [levS c.lvl] ++ (if c.fin = true then [⟨#[102, 105, 110, 97, 108]⟩] else [])
/-- A config's text. -/
def textC (c : Cfg) : ByteArray := ⟨(Lib.join ((partsC c).map (·.data.toList)) [32]).toArray⟩
theorem itoaS (n : Int) (h0 : 0 ≤ n) (h1 : n < 10) (w : World) : Calls Tryd.prog 28 #[.int .i64 n] w fun e w' => e = .returned (.string (itS n)) ∧ w = w' := by
  have h := Tryd.strconv_Itoa_small n.toNat (by omega) w
  rw [show ((n.toNat : Nat) : Int) = n by omega] at h
  exact h.mono fun e w' ⟨h1, h2⟩ => ⟨h1, h2.symm⟩
theorem itS_size {n : Int} (h0 : 0 ≤ n) (h1 : n < 10) : (itS n).size = 1 := by
  have h : ∀ k : Fin 10, (Lib.decDigits k.val).length = 1 := by decide +kernel
  have := h ⟨n.toNat, by omega⟩
  unfold itS
  show (Lib.decDigits n.toNat).toArray.size = 1
  simpa using this
theorem pieceS_size {m g : Int} (h0 : 0 ≤ m) (h1 : m < 10) (h2 : 0 ≤ g) (h3 : g < 10) : (pieceS m g).size = 3 := by
  unfold pieceS
  rw [ByteArray.size_append, ByteArray.size_append, itS_size h0 h1, itS_size h2 h3]
  rfl
theorem Tryd.elS : ElT Tryd.prog 56 9 (.string ⟨#[]⟩) 1 16 := ElT.mk' Tryd.underlying56 (by kernel_rfl) rfl (by decide)
/-- The pieces of the first k members, as values. -/
def pcsV (M G : List Int) (k : Nat) : List Value := (List.zipWith pieceS (M.take k) (G.take k)).map Value.string
theorem pcsV_len {M G : List Int} {k : Nat} (h : k ≤ M.length) (hg : G.length = M.length) : (pcsV M G k).length = k := by
  unfold pcsV
  simp
  omega
theorem pcsV_snoc {M G : List Int} {k : Nat} (h : k < M.length) (hg : G.length = M.length) : pcsV M G k ++ [.string (pieceS (M.getD k 0) (G.getD k 0))] = pcsV M G (k + 1) := by
  unfold pcsV
  rw [List.take_succ_eq_append_getElem h, List.take_succ_eq_append_getElem (by omega), List.zipWith_append (by simp; omega), List.map_append]
  simp [List.getD, List.getElem?_eq_getElem h, List.getElem?_eq_getElem (show k < G.length by omega)]
theorem Iv.at_ {w : World} {g cap : Nat} {l : List Int} (h : Iv w g cap l) {k : Nat} (hk : k < l.length) : w.cell? ⟨g, k, none⟩ = some (.int .i64 (l.getD k 0)) := by
  have := h.cell k hk
  rwa [Nat.zero_add] at this

theorem interc_le (sep : List UInt8) (b : Nat) : ∀ (xs : List (List UInt8)), (∀ x, x ∈ xs → x.length ≤ b) → (sep.intercalate xs).length ≤ xs.length * (b + sep.length)
  | [], _ => by simp [List.intercalate]
  | [x], h => by have := h x List.mem_cons_self; simp [List.intercalate]; omega
  | x :: y :: r, h => by
    have h1 := interc_le sep b (y :: r) (fun z hz => h z (List.mem_cons_of_mem _ hz))
    have h2 := h x List.mem_cons_self
    have e : (sep.intercalate (x :: y :: r)) = x ++ (sep ++ sep.intercalate (y :: r)) := by simp [List.intercalate]
    rw [e, List.length_append, List.length_append, List.length_cons, Nat.add_mul]
    omega
theorem levS_size {n : Int} (h0 : 0 ≤ n) (h1 : n < 10) : (levS n).size = 7 := by
  unfold levS
  rw [ByteArray.size_append, itS_size h0 h1]
  rfl
theorem partsC_le {c : Cfg} (hok : c.ok = true) : (partsC c).length ≤ 9 ∧ ∀ x, x ∈ (partsC c).map (·.data.toList) → x.length ≤ 7 := by
  obtain ⟨h1, h2, h3, h4, h5, h6, h7⟩ := (Cfg.ok_iff c).1 hok
  obtain ⟨s1, s2⟩ := rightL_small (by omega) (by decide) h3 h7
  constructor
  · unfold partsC
    cases c.fin <;> simp <;> omega
  · intro x hx
    obtain ⟨b, hb, rfl⟩ := List.mem_map.1 hx
    show b.data.toList.length ≤ 7
    have hb2 : b.size ≤ 7 := by
      unfold partsC at hb
      rw [List.mem_append, List.mem_append] at hb
      rcases hb with (hb | hb) | hb
      · rw [List.mem_iff_getElem?] at hb
        obtain ⟨i, hi⟩ := hb
        rw [List.getElem?_zipWith] at hi
        cases hm : c.M[i]? with
        | none => rw [hm] at hi; simp at hi
        | some m =>
          cases hg : c.G[i]? with
          | none => rw [hm, hg] at hi; simp at hi
          | some g =>
            rw [hm, hg] at hi
            have a1 := s1 m (List.mem_of_getElem? hm)
            have a2 := s2 g (List.mem_of_getElem? hg)
            have : pieceS m g = b := by simpa using hi
            rw [← this, pieceS_size (by omega) (by omega) (by omega) (by omega)]
            decide
      · have : b = levS c.lvl := by simpa using hb
        rw [this, levS_size (by omega) (by omega)]
        decide
      · cases hf : c.fin with
        | false => rw [hf] at hb; simp at hb
        | true => rw [hf] at hb; have : b = ⟨#[102, 105, 110, 97, 108]⟩ := by simpa using hb
                  rw [this]; decide
    exact hb2
theorem sJoinC {c : Cfg} (hok : c.ok = true) (g cap : Nat) (w : World) (h : Ck.in (g, .row 9 cap ((partsC c).map Value.string)) w) (n : Nat) (hn : n = (partsC c).length) :
    Calls Tryd.prog 29 #[.slice (some ⟨g, 0, none⟩) n cap, .string ⟨#[32]⟩] w fun e w' => e = .returned (.string (textC c)) ∧ Fr [] w w' := by
  subst hn
  obtain ⟨p1, p2⟩ := partsC_le hok
  have hs := h.says
  obtain ⟨o, ho, cur, rfl, q2, q3, q4, q5⟩ := h
  simp only [Ck.say, List.length_map] at hs q3
  refine (Tryd.strings_Join g 0 cap (partsC c) ⟨#[32]⟩ w ?_ hs.2.2 (by omega) q3 ?_).mono ?_
  · intro j x hj
    have hlt : j < (partsC c).length := by
      rcases Nat.lt_or_ge j (partsC c).length with h1 | h1
      · exact h1
      · rw [List.getElem?_eq_none h1] at hj; cases hj
    rw [Nat.zero_add, hs.1 j hlt, List.getElem?_map, hj]
    rfl
  · have := interc_le [32] 7 _ p2
    rw [List.length_map] at this
    have h9 : (partsC c).length * (7 + [(32 : UInt8)].length) ≤ 9 * 8 := Nat.mul_le_mul p1 (Nat.le_refl _)
    show (List.intercalate [32] _).length ≤ _
    omega
  · rintro e w' ⟨rfl, hb⟩
    exact ⟨rfl, Fr.ofBelow hb⟩

set_option maxHeartbeats 8000000 in
set_option maxRecDepth 100000 in
theorem lText (gm cm gh ch : Nat) (c : Cfg) (w : World) (h : Cf w gm cm gh ch c) (hok : c.ok = true) :
    Calls Tryd.prog 11 #[.agg (cfC gm cm gh ch c)] w fun e w' => e = .returned (.string (textC c)) ∧ Fr [] w w' := by
  obtain ⟨h1, h2, h3, h4, h5, h6, h7⟩ := (Cfg.ok_iff c).1 hok
  obtain ⟨s1, s2⟩ := rightL_small (by omega) (by decide) h3 h7
  have HJ := Lib.hid (fun g cap (w1 : World) (h : Ck.in (g, .row 9 cap ((partsC c).map Value.string)) w1) (n : Nat) (hn : n = (partsC c).length) => sJoinC hok g cap w1 h n hn)
  have HI3 := Lib.hid (itoaS c.lvl (by omega) (by omega))
  have z3 := itS_size (n := c.lvl) (by omega) (by omega)
  unfold cfC ivV at *
  generalize htx : textC c = tx at *
  clear htx
  obtain ⟨M, G, lv, fin⟩ := c
  simp only at *
  have HI := Lib.hid (fun (w1 : World) (f : Fr [] w w1) => h.fr f (by simp) (by simp))
  have HG := Lib.hid h3
  have HM7 := Lib.hid (And.intro h1 h2)
  have s1' : ∀ k, k < M.length → 0 ≤ M.getD k 0 ∧ M.getD k 0 < 10 := fun k hk => by
    have := s1 (M.getD k 0) (by simp [List.getD, List.getElem?_eq_getElem hk]); omega
  have s2' : ∀ k, k < G.length → 0 ≤ G.getD k 0 ∧ G.getD k 0 < 10 := fun k hk => by
    have := s2 (G.getD k 0) (by simp [List.getD, List.getElem?_eq_getElem hk]); omega
  have HS1 := Lib.hid s1'
  have HS2 := Lib.hid s2'
  clear h h6 h7 s1 s2 s1' s2' hok
  rw [h3]
  generalize hn : M.length = n at *
  have HN := Lib.hid hn
  clear hn h3
  obtain ⟨cx, hcx⟩ : ∃ cx, w.heap.size = cx := ⟨_, rfl⟩
  have hS := (Sat.refl [] w).new cx hcx #[.slice (some ⟨gm, 0, none⟩) n cm, .slice (some ⟨gh, 0, none⟩) n ch, .int .i64 lv, .bool fin] 25
  have hmn : mnI (n : Int) (n : Int) = (n : Int) := by unfold mnI; split <;> rfl
  go_enter Tryd.func11, Tryd.ntmps11
  go_upto_region 2 with fail
  generalize w.alloc (.cells #[.slice (some ⟨gm, 0, none⟩) n cm, .slice (some ⟨gh, 0, none⟩) n ch, .int .i64 lv, .bool fin] 25) = w1 at *
  have HX := Lib.hid hcx
  clear hcx
  rw [HX.out] at *
  have fs := hS.says
  simp only [says, Ck.say] at fs
  go_wp2_with fail
  clear fs
  go_loopw [3, 12] (fun v i wr => ∃ (k : Nat) (o : Option (Nat × Nat)), k ≤ n ∧ i = .int .i64 k ∧ v = slV o k ∧ Hid (o = none → k = 0) ∧ Hid (Sat [] w (slH 9 o (pcsV M G k) ++ [(cx, .cel #[.slice (some ⟨gm, 0, none⟩) n cm, .slice (some ⟨gh, 0, none⟩) n ch, .int .i64 lv, .bool fin] 25)]) wr)) (fun _ i _ => n - (intOf i).toNat)
  case atStart => exact ⟨0, none, Nat.zero_le _, rfl, rfl, (fun _ => rfl), hS⟩
  case round =>
    clear hS
    obtain ⟨k, o, hk, rfl, rfl, ho, hS⟩ := hrel
    have hS := hS.out
    have hcx0 := hS.all (cx, _) (List.mem_append.2 (.inr (List.mem_singleton.2 rfl)))
    have fs := hcx0.says
    simp only [Ck.say] at fs
    by_cases hlt : k < n
    · have i1 := HI.out _ hS.fr
      have e1 : wr.cell? ⟨gm, k, none⟩ = some (.int .i64 (M.getD k 0)) := i1.1.at_ (by rw [HN.out]; exact hlt) 
      have e2 : wr.cell? ⟨gh, k, none⟩ = some (.int .i64 (G.getD k 0)) := i1.2.1.at_ (by rw [HG.out]; exact hlt)
      have b1 := HS1.out k (by first | exact hlt | (rw [HN.out]; exact hlt))
      have b2 := HS2.out k (by rw [HG.out]; exact hlt)
      have hsn := Lib.hid (pcsV_snoc (M := M) (G := G) (k := k) (by rw [HN.out]; exact hlt) (HG.out.trans HN.out.symm))
      have hln := Lib.hid (pcsV_len (M := M) (G := G) (k := k) (by rw [HN.out]; omega) (HG.out.trans HN.out.symm))
      have z1 := itS_size b1.1 b1.2
      have z2 := itS_size b2.1 b2.2
      have HI1 := Lib.hid (itoaS _ b1.1 b1.2)
      have HI2 := Lib.hid (itoaS _ b2.1 b2.2)
      have hps : itS (M.getD k 0) ++ (⟨#[58]⟩ : ByteArray) ++ itS (G.getD k 0) = pieceS (M.getD k 0) (G.getD k 0) := rfl
      have HPS := Lib.hid hps
      clear hps i1
      generalize M.getD k 0 = m at *
      generalize G.getD k 0 = g at *
      have c1 : ¬ 9223372036854775807 < (itS m).size + (⟨#[58]⟩ : ByteArray).size := by rw [z1]; decide
      have c2 : ¬ 9223372036854775807 < (itS m ++ (⟨#[58]⟩ : ByteArray)).size + (itS g).size := by rw [ByteArray.size_append, z1, z2]; decide
      go_upto_region 5 with fail
      refine GoL.begin [(some 6, fun w => w.cell? ⟨cx, 0, none⟩ = some (.slice (some ⟨gm, 0, none⟩) n cm)), (some 6, fun w => w.cell? ⟨gm, k, none⟩ = some (.int .i64 m)), (some 13, fun w => w.cell? ⟨cx, 1, none⟩ = some (.slice (some ⟨gh, 0, none⟩) n ch)), (some 13, fun w => w.cell? ⟨gh, k, none⟩ = some (.int .i64 g))] (by kernel_rfl) ?_ ?_
      · exact (Facts.cons_at (.inr (by first | (simp [fs, e1, e2]) | (simp_all))) (Facts.cons_at (.inr (by first | (simp [fs, e1, e2]) | (simp_all))) (Facts.cons_at (.inr (by first | (simp [fs, e1, e2]) | (simp_all))) (Facts.cons_at (.inr (by first | (simp [fs, e1, e2]) | (simp_all))) Facts.nil_at))))
      have hS := hS.drew
      have e1 : wr.drew.cell? ⟨gm, k, none⟩ = some (.int .i64 m) := e1
      have e2 : wr.drew.cell? ⟨gh, k, none⟩ = some (.int .i64 g) := e2
      clear fs
      have fs := (hS.all (cx, _) (List.mem_append.2 (.inr (List.mem_singleton.2 rfl)))).says
      simp only [Ck.say] at fs
      generalize wr.drew = w2 at *
      refine' GoL.take 0 [] ?_ ?_ ?_ ?_ ?_
      rotate_left 3
      · (simp only [List.getElem?_toArray, List.getElem?_cons_succ, List.getElem?_cons_zero]; rfl)
      · exact fun _ _ _ h => h
      · (refine Or.inl ⟨by first | kernel_rfl | (simp [Region.wanted, yielded]), ?_⟩; intro w hSw; clear hSw; go_simp; first | done | with_reducible rfl)
      rotate_left 1
      · kernel_rfl
      simp only [Act.put, List.setIfInBounds_toArray, List.set_cons_zero, List.set_cons_succ]
      refine' GoL.take 1 [] ?_ ?_ ?_ ?_ ?_
      rotate_left 3
      · (simp only [List.getElem?_toArray, List.getElem?_cons_succ, List.getElem?_cons_zero]; rfl)
      · exact fun _ _ _ h => h
      · (refine Or.inl ⟨by first | kernel_rfl | (simp [Region.wanted, yielded]), ?_⟩; intro w hSw; clear hSw; go_simp; first | done | with_reducible rfl)
      rotate_left 1
      · kernel_rfl
      simp only [Act.put, List.setIfInBounds_toArray, List.set_cons_zero, List.set_cons_succ]
      refine' GoL.take 2 [4, 5, 6] ?_ ?_ ?_ ?_ ?_
      rotate_left 3
      · (simp only [List.getElem?_toArray, List.getElem?_cons_succ, List.getElem?_cons_zero]; rfl)
      · exact fun _ _ _ h => h
      · (refine Or.inl ⟨by first | kernel_rfl | (simp [Region.wanted, yielded]), ?_⟩; intro w hSw; have f0 := Facts.get hSw 0 rfl (by decide); (try dsimp only at f0); clear hSw; go_simp; first | done | with_reducible rfl)
      rotate_left 1
      · kernel_rfl
      simp only [Act.put, List.setIfInBounds_toArray, List.set_cons_zero, List.set_cons_succ]
      refine' GoL.take 3 [] ?_ ?_ ?_ ?_ ?_
      rotate_left 3
      · (simp only [List.getElem?_toArray, List.getElem?_cons_succ, List.getElem?_cons_zero]; rfl)
      · exact fun _ _ _ h => h
      · (refine Or.inl ⟨by first | kernel_rfl | (simp [Region.wanted, yielded]), ?_⟩; intro w hSw; clear hSw; go_simp; first | done | with_reducible rfl)
      rotate_left 1
      · kernel_rfl
      simp only [Act.put, List.setIfInBounds_toArray, List.set_cons_zero, List.set_cons_succ]
      refine' GoL.take 4 [] ?_ ?_ ?_ ?_ ?_
      rotate_left 3
      · (simp only [List.getElem?_toArray, List.getElem?_cons_succ, List.getElem?_cons_zero]; rfl)
      · exact fun _ _ _ h => h
      · (refine Or.inl ⟨by first | kernel_rfl | (simp [Region.wanted, yielded]), ?_⟩; intro w hSw; clear hSw; go_simp; first | done | with_reducible rfl)
      rotate_left 1
      · kernel_rfl
      simp only [Act.put, List.setIfInBounds_toArray, List.set_cons_zero, List.set_cons_succ]
      refine' GoL.take 5 [6] ?_ ?_ ?_ ?_ ?_
      rotate_left 3
      · (simp only [List.getElem?_toArray, List.getElem?_cons_succ, List.getElem?_cons_zero]; rfl)
      · exact fun _ _ _ h => h
      · (refine Or.inl ⟨by first | kernel_rfl | (simp [Region.wanted, yielded]), ?_⟩; intro w hSw; have f1 := Facts.get hSw 1 rfl (by decide); (try dsimp only at f1); clear hSw; go_simp; first | done | with_reducible rfl)
      rotate_left 1
      · kernel_rfl
      simp only [Act.put, List.setIfInBounds_toArray, List.set_cons_zero, List.set_cons_succ]
      refine' GoL.take 8 [] ?_ ?_ ?_ ?_ ?_
      rotate_left 3
      · (simp only [List.getElem?_toArray, List.getElem?_cons_succ, List.getElem?_cons_zero]; rfl)
      · exact fun _ _ _ h => h
      · (refine Or.inl ⟨by first | kernel_rfl | (simp [Region.wanted, yielded]), ?_⟩; intro w hSw; clear hSw; go_simp; first | done | with_reducible rfl)
      rotate_left 1
      · kernel_rfl
      simp only [Act.put, List.setIfInBounds_toArray, List.set_cons_zero, List.set_cons_succ]
      refine' GoL.take 9 [11, 12, 13] ?_ ?_ ?_ ?_ ?_
      rotate_left 3
      · (simp only [List.getElem?_toArray, List.getElem?_cons_succ, List.getElem?_cons_zero]; rfl)
      · exact fun _ _ _ h => h
      · (refine Or.inl ⟨by first | kernel_rfl | (simp [Region.wanted, yielded]), ?_⟩; intro w hSw; have f2 := Facts.get hSw 2 rfl (by decide); (try dsimp only at f2); clear hSw; go_simp; first | done | with_reducible rfl)
      rotate_left 1
      · kernel_rfl
      simp only [Act.put, List.setIfInBounds_toArray, List.set_cons_zero, List.set_cons_succ]
      refine' GoL.take 10 [] ?_ ?_ ?_ ?_ ?_
      rotate_left 3
      · (simp only [List.getElem?_toArray, List.getElem?_cons_succ, List.getElem?_cons_zero]; rfl)
      · exact fun _ _ _ h => h
      · (refine Or.inl ⟨by first | kernel_rfl | (simp [Region.wanted, yielded]), ?_⟩; intro w hSw; clear hSw; go_simp; first | done | with_reducible rfl)
      rotate_left 1
      · kernel_rfl
      simp only [Act.put, List.setIfInBounds_toArray, List.set_cons_zero, List.set_cons_succ]
      refine' GoL.take 11 [] ?_ ?_ ?_ ?_ ?_
      rotate_left 3
      · (simp only [List.getElem?_toArray, List.getElem?_cons_succ, List.getElem?_cons_zero]; rfl)
      · exact fun _ _ _ h => h
      · (refine Or.inl ⟨by first | kernel_rfl | (simp [Region.wanted, yielded]), ?_⟩; intro w hSw; clear hSw; go_simp; first | done | with_reducible rfl)
      rotate_left 1
      · kernel_rfl
      simp only [Act.put, List.setIfInBounds_toArray, List.set_cons_zero, List.set_cons_succ]
      refine' GoL.take 12 [13] ?_ ?_ ?_ ?_ ?_
      rotate_left 3
      · (simp only [List.getElem?_toArray, List.getElem?_cons_succ, List.getElem?_cons_zero]; rfl)
      · exact fun _ _ _ h => h
      · (refine Or.inl ⟨by first | kernel_rfl | (simp [Region.wanted, yielded]), ?_⟩; intro w hSw; have f3 := Facts.get hSw 3 rfl (by decide); (try dsimp only at f3); clear hSw; go_simp; first | done | with_reducible rfl)
      rotate_left 1
      · kernel_rfl
      simp only [Act.put, List.setIfInBounds_toArray, List.set_cons_zero, List.set_cons_succ]
      refine GoL.ready [6] (by kernel_rfl) (by simp) ?_
      refine GoL.one (by (simp only [List.getElem?_toArray, List.getElem?_cons_succ, List.getElem?_cons_zero]; rfl)) (fun K hK => ?_) ?_
      · go_simp
        refine (HI1.out _).mono ?_
        rintro e w' ⟨rfl, rfl⟩
        refine hK.out _ _ ?_ ?_
        · exact (Facts.cons_at (.inl (by kernel_rfl)) (Facts.cons_at (.inl (by kernel_rfl)) (Facts.cons_at (.inr (by first | (simp [fs, e1, e2]) | (simp_all))) (Facts.cons_at (.inr (by first | (simp [fs, e1, e2]) | (simp_all))) Facts.nil_at))))
        clear hK K
        try simp only [Act.put, List.setIfInBounds_toArray, List.set_cons_zero, List.set_cons_succ]
        refine' GoL.take 7 [] ?_ ?_ ?_ ?_ ?_
        rotate_left 3
        · (simp only [List.getElem?_toArray, List.getElem?_cons_succ, List.getElem?_cons_zero]; rfl)
        · exact fun _ _ _ h => h
        · (refine Or.inl ⟨by first | kernel_rfl | (simp [Region.wanted, yielded]), ?_⟩; intro w hSw; clear hSw; go_simp; first | done | with_reducible rfl)
        rotate_left 1
        · kernel_rfl
        simp only [Act.put, List.setIfInBounds_toArray, List.set_cons_zero, List.set_cons_succ]
        refine GoL.ready [13] (by kernel_rfl) (by simp) ?_
        refine GoL.one (by (simp only [List.getElem?_toArray, List.getElem?_cons_succ, List.getElem?_cons_zero]; rfl)) (fun K hK => ?_) ?_
        · go_simp
          refine (HI2.out _).mono ?_
          rintro e w' ⟨rfl, rfl⟩
          refine hK.out _ _ ?_ ?_
          · exact (Facts.cons_at (.inl (by kernel_rfl)) (Facts.cons_at (.inl (by kernel_rfl)) (Facts.cons_at (.inl (by kernel_rfl)) (Facts.cons_at (.inl (by kernel_rfl)) Facts.nil_at))))
          clear hK K
          try simp only [Act.put, List.setIfInBounds_toArray, List.set_cons_zero, List.set_cons_succ]
          refine' GoL.take 14 [] ?_ ?_ ?_ ?_ ?_
          rotate_left 3
          · (simp only [List.getElem?_toArray, List.getElem?_cons_succ, List.getElem?_cons_zero]; rfl)
          · exact fun _ _ _ h => h
          · (refine Or.inl ⟨by first | kernel_rfl | (simp [Region.wanted, yielded]), ?_⟩; intro w hSw; clear hSw; go_simp; first | done | with_reducible rfl)
          rotate_left 1
          · kernel_rfl
          simp only [Act.put, List.setIfInBounds_toArray, List.set_cons_zero, List.set_cons_succ]
          refine GoL.ready [15] (by kernel_rfl) (by simp) ?_
          refine GoL.one (by (simp only [List.getElem?_toArray, List.getElem?_cons_succ, List.getElem?_cons_zero]; rfl)) (fun K hK => ?_) ?_
          · go_simp
            rw [HPS.out]
            have hS := hS.new _ rfl #[.string (pieceS m g)] 9
            generalize w2.heap.size = vb at *
            generalize w2.alloc (.cells #[.string (pieceS m g)] 9) = w5 at *
            refine hK.out _ _ ?_ ?_
            · exact (Facts.cons_at (.inl (by kernel_rfl)) (Facts.cons_at (.inl (by kernel_rfl)) (Facts.cons_at (.inl (by kernel_rfl)) (Facts.cons_at (.inl (by kernel_rfl)) Facts.nil_at))))
            clear hK K
            try simp only [Act.put, List.setIfInBounds_toArray, List.set_cons_zero, List.set_cons_succ]
            refine GoL.ready [16] (by kernel_rfl) (by simp) ?_
            refine GoL.one (by (simp only [List.getElem?_toArray, List.getElem?_cons_succ, List.getElem?_cons_zero]; rfl)) (fun K hK => ?_) ?_
            · refine step_apS rfl (.tmp 15) (.tmp 30) 56 rfl Tryd.elS o (l := pcsV M G k) (u := .string (pieceS m g)) (vb := vb) (hS.perm List.perm_middle.symm) ?_ ?_ rfl (Ck.cel_in.1 (hS.mem 0 rfl)) rfl ?_ ?_ ?_
              · intro h0; have := ho.out h0; subst this; rfl
              · rw [hln.out]; rfl
              · rw [hln.out]; unfold maxLen; omega
              · rw [hln.out]; omega
              intro g6 c6 w6 hS
              rw [hln.out]
              rw [hsn.out] at hS
              refine hK.out _ _ ?_ ?_
              · exact (Facts.cons_at (.inl (by kernel_rfl)) (Facts.cons_at (.inl (by kernel_rfl)) (Facts.cons_at (.inl (by kernel_rfl)) (Facts.cons_at (.inl (by kernel_rfl)) Facts.nil_at))))
              clear hK K
              try simp only [Act.put, List.setIfInBounds_toArray, List.set_cons_zero, List.set_cons_succ]
              refine' GoL.take 17 [] ?_ ?_ ?_ ?_ ?_
              rotate_left 3
              · (simp only [List.getElem?_toArray, List.getElem?_cons_succ, List.getElem?_cons_zero]; rfl)
              · exact fun _ _ _ h => h
              · (refine Or.inl ⟨by first | kernel_rfl | (simp [Region.wanted, yielded]), ?_⟩; intro w hSw; clear hSw; go_simp; first | done | with_reducible rfl)
              rotate_left 1
              · kernel_rfl
              simp only [Act.put, List.setIfInBounds_toArray, List.set_cons_zero, List.set_cons_succ]
              refine GoL.done (by kernel_rfl) ?_
              go_wp2_with fail
              go_roundw
              case rel => exact ⟨k + 1, some (g6, c6), by omega, by first | rfl | go_num, rfl, (fun h => by cases h), hS.sub (.cons_cons _ (.cons _ (List.Sublist.refl _)))⟩
              case measure => simp [intOf]; omega
            exact AllL.nil
          exact AllL.nil
        exact AllL.nil
      exact AllL.nil
    · obtain rfl : k = n := by omega
      cases o with
      | none => have := ho.out rfl; have := HM7.out; omega
      | some x =>
        obtain ⟨g0, c0⟩ := x
        simp only [slV, slH, List.cons_append, List.nil_append] at *
        have hln := Lib.hid (pcsV_len (M := M) (G := G) (k := k) (by rw [HN.out]; omega) (HG.out.trans HN.out.symm))
        have c1 : ¬ 9223372036854775807 < (⟨#[108, 101, 118, 101, 108, 32]⟩ : ByteArray).size + (itS lv).size := by rw [z3]; decide
        have hn7 := HM7.out
        have HP : Hid (∀ f, (partsC ⟨M, G, lv, f⟩).map Value.string = pcsV M G k ++ [.string (levS lv)] ++ (if f = true then [.string ⟨#[102, 105, 110, 97, 108]⟩] else [])) := by
          intro f
          unfold partsC pcsV
          rw [List.take_of_length_le (by rw [HN.out]; exact Nat.le_refl _), List.take_of_length_le (by rw [HG.out]; exact Nat.le_refl _)]
          cases f <;> simp
        have HPl : Hid (∀ f, (partsC ⟨M, G, lv, f⟩).length = k + 1 + (if f = true then 1 else 0)) := by
          intro f
          have h := congrArg List.length (HP.out f)
          rw [List.length_map, List.length_append, List.length_append, hln.out] at h
          rw [h]
          cases f <;> rfl
        cases fin with
        | false =>
          go_wp2_with (first
            | (go_at_call 28; refine (HI3.out _).mono ?_; rintro e w' ⟨rfl, rfl⟩)
            | (at_builtin; refine wpList_apS Tryd.elS (.tmp 33) (.tmp 38) (some (g0, c0)) (l := pcsV M G k) (u := .string (levS lv)) (vb := wr.heap.size) ((hS.new _ rfl #[.string (levS lv)] 9).perm (List.Perm.swap _ _ _)) (fun h => by cases h) (by rw [hln.out]; rfl) rfl (Blk.new wr #[.string (levS lv)] 9) rfl (by rw [hln.out]; unfold maxLen; omega) (by rw [hln.out]; omega) ?_; intro g1 c1 w1 hS; clear fs; have fs := (hS.mem 2 rfl).says; simp only [Ck.say] at fs)
            | (go_at_call 29; have q := HP.out false; simp only [Bool.false_eq_true, if_false, if_true, List.append_nil] at q; refine (HJ.out g1 c1 w1 (by rw [q]; exact hS.mem 0 rfl) _ (by rw [HPl.out]; simp [hln.out])).mono ?_; clear q; rintro e w2 ⟨rfl, f2⟩))
          go_ret
          exact ⟨rfl, (hS.fr0 f2).fr⟩
        | true =>
          go_wp2_with (first
            | (go_at_call 28; refine (HI3.out _).mono ?_; rintro e w' ⟨rfl, rfl⟩)
            | (at_builtin; refine wpList_apS Tryd.elS (.tmp 33) (.tmp 38) (some (g0, c0)) (l := pcsV M G k) (u := .string (levS lv)) (vb := wr.heap.size) ((hS.new _ rfl #[.string (levS lv)] 9).perm (List.Perm.swap _ _ _)) (fun h => by cases h) (by rw [hln.out]; rfl) rfl (Blk.new wr #[.string (levS lv)] 9) rfl (by rw [hln.out]; unfold maxLen; omega) (by rw [hln.out]; omega) ?_; intro g1 c1 w1 hS; clear fs; have fs := (hS.mem 2 rfl).says; simp only [Ck.say] at fs)
            | (at_builtin; refine wpList_apS Tryd.elS (.tmp 42) (.tmp 43) (some (g1, c1)) (l := pcsV M G k ++ [.string (levS lv)]) (u := .string ⟨#[102, 105, 110, 97, 108]⟩) (vb := w1.heap.size) ((hS.new _ rfl #[.string ⟨#[102, 105, 110, 97, 108]⟩] 9).perm (List.Perm.swap _ _ _)) (fun h => by cases h) (by rw [List.length_append, hln.out]; rfl) rfl (Blk.new w1 #[.string ⟨#[102, 105, 110, 97, 108]⟩] 9) rfl (by rw [List.length_append, hln.out]; unfold maxLen; simp; omega) (by rw [List.length_append, hln.out]; simp; omega) ?_; intro g2 c2 w3 hS)
            | (go_at_call 29; have q := HP.out true; simp only [Bool.false_eq_true, if_false, if_true, List.append_nil] at q; refine (HJ.out g2 c2 w3 (by rw [q]; exact hS.mem 0 rfl) _ (by rw [HPl.out]; simp [hln.out])).mono ?_; clear q; rintro e w2 ⟨rfl, f2⟩))
          go_ret
          exact ⟨rfl, (hS.fr0 f2).fr⟩
end Go.Proofs.YtnnpjjehecbljaaDoor

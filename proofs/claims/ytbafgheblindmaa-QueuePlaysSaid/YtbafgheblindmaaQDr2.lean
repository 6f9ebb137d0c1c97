/-
  QueueDrops: one that is lost never comes; one that is doubled comes twice; the rest stays in order: the walk.
-/
import Derived.Test.YtbafgheblindmaaQDr
import Derived.Laws.AppendOwnNone
import Derived.Deep.DeepCutAuto
namespace Go.Proofs.Ytbafgheblindmaa.queueDrops
open Go.ChangeShapes Go.WideShapes Go.ChangeAt Go.RowKit Go.Proofs.Ytbafgheblindmaa
open Go.ChangeMaps (open_string shut_string)
open Go.Proofs.Ytbafgheblindmaa.queueNext (IsRow neqItm guardItm cell_keep)

theorem mn_nat (n : Nat) : ∃ m : Nat, mnI (n : Int) 49 = (m : Int) ∧ m ≤ n ∧ m ≤ 49 := by
  unfold mnI
  by_cases h : (49 : Int) < n
  · exact ⟨49, by rw [if_pos h]; rfl, by omega, by omega⟩
  · exact ⟨n, by rw [if_neg h], Nat.le_refl _, by omega⟩

theorem byteT : ElT Try.prog 22 5 (.int .u8 0) 1 1 := ElT.mk' Try.underlying22 (by kernel_rfl) rfl (by decide)

/-- The bytes that were gathered. -/
def Bytes (w : World) (g N : Nat) (z : List Int) : Prop := ∀ j, j < N → w.cell? ⟨g, j, none⟩ = some (.int .u8 (z.getD j 0))
theorem Bytes.of {w : World} {base g c N : Nat} {z : List Int} (h : w.ownsRow base 5 1 (.slice (some ⟨g, 0, none⟩) N c) N (z.map (Value.int .u8))) : Bytes w g N z := by
  intro j hj
  have hl := h.1
  simp at hl
  have := World.ownsRow.cells h (g := g) rfl j (.int .u8 (z.getD j 0)) (by simp [List.getD_eq_getElem?_getD, List.getElem?_eq_getElem (show j < z.length by omega)])
  rw [← this]
  unfold Addr.add
  split
  · rename_i e; subst e; rfl
  · simp

theorem wAddT (w0 : World) (qa : Nat) (va : Value) (S S' : List Itm) (last n t d : Int) (s : ByteArray) (qb : Nat) (vb : Value) (Sb : List Itm) (lb : Int) (w : World) (h : Two w0 w qa va S last qb vb Sb lb) (hf : S.length < 4096) (hl : last ≤ 1000000) (hn : last + 1 = n) (hS : ins ⟨t, n, d, s⟩ S = S') :
    Calls Try.prog 10 #[.pointer (some ⟨qa, 0, none⟩), .int .u64 t, .int .i64 d, .string s] w fun e w' => e = .returned (.tuple #[.int .u64 n, .int .i64 0]) ∧ ∃ v', Hid (Two w0 w' qa v' S' n qb vb Sb lb) ∧ Hid (Kept qa va w v' w') := by
  subst hn; subst hS
  exact (qAdd qa va S last t d s w h.a hf hl).mono fun _ _ ⟨h1, v', h2, h3⟩ => ⟨h1, v', h.stepA h2 h3, h3⟩

theorem wDropT (w0 : World) (qa : Nat) (va : Value) (S S' : List Itm) (b : Bool) (last o : Int) (qb : Nat) (vb : Value) (Sb : List Itm) (lb : Int) (w : World) (h : Two w0 w qa va S last qb vb Sb lb) (hb : hasB S o = b) (hS : without S o = S') :
    Calls Try.prog 17 #[.pointer (some ⟨qa, 0, none⟩), .int .u64 o] w fun e w' => e = .returned (.bool b) ∧ ∃ v', Hid (Two w0 w' qa v' S' last qb vb Sb lb) ∧ Hid (Kept qa va w v' w') := by
  subst hb; subst hS
  exact (qDrop qa va S last o w h.a).mono fun _ _ ⟨h1, v', h2, h3⟩ => ⟨h1, v', h.stepA h2 h3, h3⟩

theorem wDoubleT (w0 : World) (qa : Nat) (va : Value) (S S' : List Itm) (last n o t : Int) (x : Itm) (qb : Nat) (vb : Value) (Sb : List Itm) (lb : Int) (w : World) (h : Two w0 w qa va S last qb vb Sb lb) (hx : x ∈ S) (ho : x.order = o) (hf : S.length < 4096) (hl : last ≤ 1000000) (hn : last + 1 = n) (hS : ins ⟨t, n, x.to, x.data⟩ S = S') :
    Calls Try.prog 13 #[.pointer (some ⟨qa, 0, none⟩), .int .u64 o, .int .u64 t] w fun e w' => e = .returned (.tuple #[.int .u64 n, .bool true]) ∧ ∃ v', Hid (Two w0 w' qa v' S' n qb vb Sb lb) ∧ Hid (Kept qa va w v' w') := by
  subst hn; subst hS
  exact (qDouble qa va S last o t x w h.a hx ho hf hl).mono fun _ _ ⟨h1, v', h2, h3⟩ => ⟨h1, v', h.stepA h2 h3, h3⟩

/-- What the second loop reads. -/
structure Three (w : World) (gA gM : Nat) (vl : Value) (S L M : List Itm) : Prop where
  all : ∃ c, Its w (.slice (some ⟨gA, 0, none⟩) S.length c) S
  less : Its w vl L
  more : ∃ c, Its w (.slice (some ⟨gM, 0, none⟩) M.length c) M
theorem Three.fr0 {w w' : World} {gA gM : Nat} {vl : Value} {S L M : List Itm} (h : Three w gA gM vl S L M) (hf : Fr [] w w') : Three w' gA gM vl S L M := by
  obtain ⟨⟨c, h1⟩, h2, c', h3⟩ := h
  exact ⟨⟨c, h1.fr0 hf⟩, h2.fr0 hf, c', h3.fr0 hf⟩
theorem Three.a4 {w : World} {gA gM : Nat} {vl : Value} {S L M : List Itm} (h : Three w gA gM vl S L M) {i : Nat} (hi : i < S.length) {x : Itm} (hx : at' S i = x) :
    w.cell? ⟨gA, i * 4, none⟩ = some (.int .u64 x.time) ∧ w.cell? ⟨gA, i * 4 + 1, none⟩ = some (.int .u64 x.order) ∧ w.cell? ⟨gA, i * 4 + 2, none⟩ = some (.int .i64 x.to) ∧ w.cell? ⟨gA, i * 4 + 3, none⟩ = some (.string x.data) := by
  subst hx; obtain ⟨c, h1⟩ := h.all; exact h1.cells4 rfl hi
theorem Three.m4 {w : World} {gA gM : Nat} {vl : Value} {S L M : List Itm} (h : Three w gA gM vl S L M) {i : Nat} (hi : i < M.length) {x : Itm} (hx : at' M i = x) :
    w.cell? ⟨gM, i * 4, none⟩ = some (.int .u64 x.time) ∧ w.cell? ⟨gM, i * 4 + 1, none⟩ = some (.int .u64 x.order) ∧ w.cell? ⟨gM, i * 4 + 2, none⟩ = some (.int .i64 x.to) ∧ w.cell? ⟨gM, i * 4 + 3, none⟩ = some (.string x.data) := by
  subst hx; obtain ⟨c, h1⟩ := h.more; exact h1.cells4 rfl hi

theorem wAllT (qa : Nat) (va : Value) (S : List Itm) (last : Int) (m : Nat) (w : World) (h : QS w qa va S last) (hm : S.length = m) :
    Calls Try.prog 15 #[.pointer (some ⟨qa, 0, none⟩)] w fun e w' => ∃ a c, e = .returned (.slice a m c) ∧ Hid (Its w' (.slice a m c) S ∧ ∀ x, x ∈ (Value.slice a m c).ownBlock.toList → w.heap.size ≤ x) ∧ Hid (Fr [] w w') := by
  subst hm
  refine (qAll qa va S last w h).mono ?_
  rintro e w' ⟨v', rfl, hr, hf⟩
  have hlt := World.ownsRow.lt hr
  have hI : Its w' v' S := ownsRow_base hr (Nat.zero_le _)
  rcases hr.2 with ⟨rfl, h3⟩ | ⟨g, cap, cur, rfl, _⟩
  · exact ⟨none, 0, by rw [h3], ⟨by rw [h3]; exact hI, by simp [Value.ownBlock]⟩, hf⟩
  · exact ⟨_, _, rfl, ⟨hI, fun x hx => (hlt x (by simpa using hx)).1⟩, hf⟩

theorem Its.slice1 {w : World} {a : Option Addr} {m c : Nat} {L : List Itm} (h : Its w (.slice a m c) L) (hL : 0 < L.length) : ∃ g, a = some ⟨g, 0, none⟩ ∧ m = L.length := by
  rcases h.shape with ⟨_, rfl⟩ | ⟨g, cap, hv, _⟩
  · simp at hL
  · injection hv with h1 h2 h3; exact ⟨g, h1, h2⟩
theorem Lies.new {w w' : World} {v : Value} {L : List Itm} {qa qb : Nat} {va vb : Value} {Sa Sb : List Itm} {la lb : Int} {w0 : World} (h : Two w0 w qa va Sa la qb vb Sb lb) (hI : Its w' v L ∧ ∀ x, x ∈ v.ownBlock.toList → w.heap.size ≤ x) : Lies w' v L qa va qb vb :=
  ⟨hI.1, fun x hx e => by have := hI.2 x hx; have := qsLt h.a e; omega, fun x hx e => by have := hI.2 x hx; have := qsLt h.b e; omega⟩

theorem own1 (w : World) : (w.alloc (.cells #[.int .u8 7] 5)).ownsRow 0 5 1 (.slice (some ⟨w.heap.size, 0, none⟩) 1 1) 1 [.int .u8 7] :=
  ⟨rfl, .inr ⟨w.heap.size, 1, #[.int .u8 7], rfl, Nat.zero_le _, Blk.new w #[.int .u8 7] 5, by omega, by decide, rfl, rfl⟩⟩

theorem cutOf {w1 w2 : World} {v' : Value} {n0 : Nat} {z Y : List Int} {S : List Nat} (h : w2.ownsRow 0 5 1 v' (1 + n0) ([.int .u8 7] ++ (z.take n0).map (Value.int .u8))) (hf : Fr S (w1.alloc (.cells #[.int .u8 7] 5)) w2) (hS : ∀ x, x ∈ S → w1.heap.size ≤ x)
    (hz : n0 ≤ z.length) (hb : ∀ j, j < n0 → 0 ≤ z.getD j 0 ∧ z.getD j 0 ≤ 255) (hY : Y = 7 :: z.take n0) :
    ∃ g c, v' = .slice (some ⟨g, 0, none⟩) (n0 + 1) c ∧ Hid (Fr [] w1 w2) ∧ Hid (Bytes w2 g (n0 + 1) Y) ∧ Hid (g < w2.heap.size) ∧ Hid (∀ j, j < n0 + 1 → 0 ≤ Y.getD j 0 ∧ Y.getD j 0 ≤ 255) := by
  subst hY
  have hlt := World.ownsRow.lt h
  have e1 : 1 + n0 = n0 + 1 := by omega
  have e2 : ([.int .u8 7] ++ (z.take n0).map (Value.int .u8) : List Value) = ((7 : Int) :: z.take n0).map (Value.int .u8) := rfl
  rw [e1, e2] at h
  have hc := h
  rcases h.2 with ⟨_, h0⟩ | ⟨g, cap, cur, rfl, _⟩
  · omega
  · refine ⟨g, cap, rfl, ((Fr.refl [] w1).alloc _).trans hf (fun x hx => .inr (hS x hx)), Bytes.of hc, (hlt g rfl).2, fun j hj => ?_⟩
    cases j with
    | zero => simp
    | succ j =>
      have hj' : j < n0 := by omega
      have := hb j hj'
      rw [List.getD_eq_getElem?_getD] at this ⊢
      rw [List.getElem?_cons_succ, List.getElem?_take_of_lt hj']
      exact this

theorem Two.start {w0 w1 w2 : World} {qa qb : Nat} (ha : QW w0 w1 qa (.slice none 0 0) [] 0) (hb : QW w1 w2 qb (.slice none 0 0) [] 0) : Two w0 w2 qa (.slice none 0 0) [] 0 qb (.slice none 0 0) [] 0 := by
  have h1 := ha.qs.lt.1
  have h2 := hb.hq
  have h3 := ha.hq
  have h4 := ha.fr.size
  refine ⟨ha.qs.fr0 hb.fr, hb.qs, ?_, ?_, ?_, ha.fr.trans0 hb.fr⟩
  · intro x hx hy
    simp [Value.ownBlock] at hx hy
    omega
  · intro x hx
    simp [Value.ownBlock] at hx
    omega
  · intro x hx
    simp [Value.ownBlock] at hx
    omega

set_option maxRecDepth 100000 in
set_option maxHeartbeats 40000000 in
theorem walk (a0 : Option Addr) (len cap : Nat) (z : List Int) (wh ti : Int) (w : World) (hrow : IsRow .u8 w a0 len cap z) (hwh : 0 ≤ wh ∧ wh ≤ 255) (hti : 0 ≤ ti ∧ ti ≤ 255) :
    Calls Try.prog 6 #[.slice a0 len cap, .int .u8 wh, .int .u8 ti] w fun e w' => e = .returned (.bool true) ∧ Fr [] w w' := by
  obtain ⟨n0, hmn, hnl, hn49⟩ := mn_nat len
  obtain ⟨hw0, hw1⟩ := hwh
  obtain ⟨ht0, ht1⟩ := hti
  obtain ⟨j, hj, HW⟩ : ∃ j : Nat, j < n0 + 1 ∧ Hid (IntKind.u64.wrap (wrap64 (wh % ((n0 : Int) + 1) + 1)) = (j : Int) + 1) := by
    have h1 := Int.emod_nonneg wh (b := (n0 : Int) + 1) (by omega)
    have h2 := Int.emod_lt_of_pos wh (b := (n0 : Int) + 1) (by omega)
    refine ⟨(wh % ((n0 : Int) + 1)).toNat, by omega, ?_⟩
    show _ = _
    have h3 : ((wh % ((n0 : Int) + 1)).toNat : Int) = wh % ((n0 : Int) + 1) := Int.toNat_of_nonneg h1
    rw [h3]
    generalize wh % ((n0 : Int) + 1) = r at *
    have h4 : wrap64 (r + 1) = r + 1 := by unfold wrap64; omega
    rw [h4]
    simp [IntKind.wrap, IntKind.bits, IntKind.signed]
    omega
  have HRW := Lib.hid hrow
  obtain ⟨Y, hY⟩ : ∃ Y, Y = (7 : Int) :: z.take n0 := ⟨_, rfl⟩
  have HY := Lib.hid hY
  have hneq := fun t o d s w => neqItm t o d s w
  have hgd := guardItm
  clear hrow hY
  go_enter Try.func6, Try.ntmps6
  go_wp2_with fail
  refine (fExamples w).mono ?_
  rintro e w1 ⟨rfl, f1⟩
  have HF1 := Lib.hid f1
  clear f1
  go_upto_region 4 with fail
  go_cut [0] (fun l wx => ∃ g c, l = .slice (some ⟨g, 0, none⟩) (n0 + 1) c ∧ Hid (Fr [] w1 wx) ∧ Hid (Bytes wx g (n0 + 1) Y) ∧ Hid (g < wx.heap.size) ∧ Hid (∀ j, j < n0 + 1 → 0 ≤ Y.getD j 0 ∧ Y.getD j 0 ≤ 255))
  case first =>
    rcases HRW.out with ⟨rfl, rfl, rfl, rfl⟩ | ⟨x, rfl, hlc, hcm, hzl, hcell, hwf⟩
    · obtain rfl : n0 = 0 := by omega
      obtain ⟨i, hi1, hi2, hi3, hi4⟩ := byteT.hi
      have hmn0 : mnI 0 49 = 0 := rfl
      have hO := Lib.hid (own1 w1)
      go_wp2_with (refine wpList_append_own_none rfl (.tmp 24) (.tmp 29) 22 rfl 0 5 i 1 byteT.ht hi1 _ 1 [.int .u8 7] rfl hO.out rfl ?_)
      go_meet
      exact cutOf (z := []) (by simpa using hO.out) (Fr.refl [] _) (by simp) (by simp) (by intro j hj; omega) HY.out
    · have hO := Lib.hid (own1 w1)
      have hb : ∀ j, j < n0 → 0 ≤ z.getD j 0 ∧ z.getD j 0 ≤ 255 := fun j hj => bounds_u8 (hwf _ (by rw [List.getD_eq_getElem?_getD, List.getElem?_eq_getElem (by omega)]; exact List.getElem_mem _))
      have hN : ∀ j u, ((z.take n0).map (Value.int .u8))[j]? = some u → (w1.alloc (.cells #[.int .u8 7] 5)).cell? (x.add j) = some u := by
        intro j u hu
        rw [List.getElem?_map] at hu
        by_cases hj : j < n0
        · rw [List.getElem?_take_of_lt hj, List.getElem?_eq_getElem (by omega)] at hu
          have hc := hcell j (by omega)
          rw [List.getD_eq_getElem?_getD, List.getElem?_eq_getElem (by omega)] at hc
          rw [cell_keep (HF1.out.alloc _) hc]
          simpa using hu
        · rw [List.getElem?_take_eq_none (by omega)] at hu
          cases hu
      have h1n : ∀ u ∈ (z.take n0).map (Value.int .u8), u.oneCell' = true := by
        intro u hu
        obtain ⟨y, _, rfl⟩ := List.mem_map.1 hu
        rfl
      have hln : ((z.take n0).map (Value.int .u8)).length = n0 * 1 := by simp; omega
      have HN := Lib.hid hN
      have HB := Lib.hid hb
      have H1 := Lib.hid h1n
      have HL := Lib.hid hln
      have HZ := Lib.hid hzl
      have h63 : 1 + n0 ≤ maxLen := by unfold maxLen; omega
      have hS2 : Hid (∀ x, x ∈ (Value.slice (some ⟨w1.heap.size, 0, none⟩) 1 1).ownBlock.toList → w1.heap.size ≤ x) := by intro x hx; simp [Value.ownBlock] at hx; omega
      clear hcell hwf hN hb h1n hln hzl
      go_wp2_with (refine wpList_app byteT (.tmp 24) (.tmp 29) 0 _ 1 [.int .u8 7] rfl hO.out x n0 _ ((z.take n0).map (Value.int .u8)) rfl HL.out HN.out H1.out h63 (by omega) (Nat.zero_le _) ?_; intro v' w2 hown hfr)
      go_meet
      exact cutOf hown.out hfr.out hS2.out (by have := HZ.out; omega) HB.out HY.out
  case rest =>
    obtain ⟨g, c, rfl, HFx, HBy, Hg, HBd⟩ := hcut
    clear hmn HRW HY
    go_wp2_with fail
    refine (wNew _).mono ?_
    rintro e w3 ⟨qa, rfl, HA⟩
    go_wp2_with fail
    refine (wNew _).mono ?_
    rintro e w4 ⟨qb, rfl, HB⟩
    have HT0 := Lib.hid (Two.start HA.out HB.out)
    clear HA HB
    go_wp2_with fail
    go_loopw [10] (fun iv wr => ∃ (k : Nat) (va vb : Value), k ≤ n0 + 1 ∧ iv = .int .i64 k ∧ Hid (Two wc wr qa va (Sof Y k) k qb vb (Sof Y k) k)) (fun iv _ => n0 + 1 - (intOf iv).toNat)
    case atStart => exact ⟨0, _, _, by omega, rfl, HT0⟩
    case round =>
      obtain ⟨k, va, vb, hk, rfl, HT⟩ := hrel
      by_cases hlt : k < n0 + 1
      · have hc0 := cell_keep HT.out.fr (HBy.out k hlt)
        obtain ⟨hb0, hb1⟩ := HBd.out k hlt
        have hS : ins ⟨Y.getD k 0, (k : Int) + 1, k, ⟨#[120]⟩⟩ (Sof Y k) = Sof Y (k + 1) := rfl
        have HC1 : Hid (wc.cell? ⟨g, k, none⟩ = some (.int .u8 (Y.getD k 0))) := HBy.out k hlt
        generalize Y.getD k 0 = t at *
        have HS := Lib.hid hS
        clear hS
        have hl1 : (Sof Y k).length < 4096 := by rw [Sof_len]; omega
        go_wp2_with fail
        refine (wAddT wc qa va (Sof Y k) (Sof Y (k + 1)) k (k + 1) t k ⟨#[120]⟩ qb vb (Sof Y k) k _ HT.out hl1 (by omega) rfl HS.out).mono ?_
        rintro e w5 ⟨rfl, va5, H5, K5⟩
        have hc5 := cell_keep H5.out.fr HC1.out
        clear hc0
        go_wp2_with fail
        refine (wAddT wc qb vb (Sof Y k) (Sof Y (k + 1)) k (k + 1) t k ⟨#[120]⟩ qa va5 (Sof Y (k + 1)) (k + 1) _ H5.out.swap hl1 (by omega) rfl HS.out).mono ?_
        rintro e w6 ⟨rfl, vb6, H6, K6⟩
        go_wp2_with fail
        go_roundw
        case rel => exact ⟨k + 1, va5, vb6, by omega, by go_num, Lib.hid (by simpa using H6.out.swap)⟩
        case measure => simp [intOf]; omega
      · obtain rfl : k = n0 + 1 := by omega
        have HSl := Lib.hid (Sof_len Y (n0 + 1))
        have HSh := Lib.hid (fun i (hi : i < n0 + 1) => Sof_has Y hi)
        generalize Sof Y (n0 + 1) = S at *
        clear hlt hk
        go_wp2_with fail
        have HTn : Hid (Two wc wr qa va S ((n0 : Int) + 1) qb vb S ((n0 : Int) + 1)) := Lib.hid (by simpa using HT.out)
        have HX := Lib.hid (HSh.out j hj)
        have HQf := Lib.hid (qsFacts HTn.out.a)
        clear HT HSh
        refine (wAllT qa va S _ (n0 + 1) _ HTn.out.a HSl.out).mono ?_
        rintro e w7 ⟨aA, cA, rfl, HIA, F7⟩
        obtain ⟨gA, rfl, -⟩ := Its.slice1 HIA.out.1 (by rw [HSl.out]; omega)
        have HT7 := Lib.hid (HTn.out.fr0 F7.out)
        have HLA := Lib.hid (Lies.new HTn.out HIA.out)
        clear HIA HTn F7
        go_wp2_with fail
        rw [HW.out]
        obtain ⟨D, hD⟩ : ∃ D, without S ((j : Int) + 1) = D := ⟨_, rfl⟩
        have HDl : Hid (D.length = n0) := by
          show D.length = n0
          rw [← hD]
          exact without_len HSl.out HQf.out.1 HX.out rfl
        have HD := Lib.hid hD
        clear hD
        refine (wDropT wc qa va S D true _ ((j : Int) + 1) qb vb S _ _ HT7.out (hasB_yes HX.out rfl) HD.out).mono ?_
        rintro e w8 ⟨rfl, va8, HT8, K8⟩
        have HLA8 := Lib.hid (HLA.out.stepA K8.out)
        clear HLA HT7 K8
        go_wp2_with fail
        obtain ⟨M, hM⟩ : ∃ M, ins ⟨ti, (n0 : Int) + 1 + 1, j, ⟨#[120]⟩⟩ S = M := ⟨_, rfl⟩
        have HM := Lib.hid hM
        have hMl : M.length = n0 + 2 := by rw [← hM, (ins_perm _ S).length_eq]; simp [HSl.out]
        have HMl := Lib.hid hMl
        clear hM hMl
        refine (wDoubleT wc qb vb S M _ ((n0 : Int) + 1 + 1) ((j : Int) + 1) ti (itm Y j) qa va8 D _ _ HT8.out.swap HX.out rfl (by rw [HSl.out]; omega) (by omega) rfl HM.out).mono ?_
        rintro e w9 ⟨rfl, vb9, HT9, K9⟩
        have HLA9 := Lib.hid (HLA8.out.swap.stepA K9.out)
        clear HLA8 HT8 K9
        go_wp2_with fail
        refine (wAllT qa va8 D _ n0 _ HT9.out.b HDl.out).mono ?_
        rintro e w10 ⟨aL, cL, rfl, HIL, F10⟩
        go_wp2_with fail
        refine (wAllT qb vb9 M _ (n0 + 2) _ (HT9.out.a.fr0 F10.out) HMl.out).mono ?_
        rintro e w11 ⟨aM, cM, rfl, HIM, F11⟩
        obtain ⟨gM, rfl, -⟩ := Its.slice1 HIM.out.1 (by rw [HMl.out]; omega)
        have H3 : Hid (Three w11 gA gM (.slice aL n0 cL) S D M) :=
          ⟨⟨cA, by rw [HSl.out]; exact (HLA9.out.its.fr0 F10.out).fr0 F11.out⟩, HIL.out.1.fr0 F11.out, cM, by rw [HMl.out]; exact HIM.out.1⟩
        have HT11 := Lib.hid ((HT9.out.fr0 F10.out).fr0 F11.out)
        clear HT9 HIL HIM F10 F11 HLA9
        go_wp2_with fail
        -- THE SECOND LOOP
        obtain ⟨p, hp, hMp⟩ := ins_place ⟨ti, (n0 : Int) + 1 + 1, j, ⟨#[120]⟩⟩ S
        rw [HM.out] at hMp
        have HP := Lib.hid hp
        have HMp := Lib.hid hMp
        clear hp hMp
        go_loopw [18, 19, 20] (fun av bv iv wr => ∃ i : Nat, i ≤ n0 + 1 ∧ iv = .int .i64 i ∧ av = .int .i64 (atOf S ((j : Int) + 1) i) ∧ bv = .int .i64 (wasOf p i) ∧ Hid (Fr [] w11 wr)) (fun _ _ iv _ => n0 + 1 - (intOf iv).toNat)
        case atStart => exact ⟨0, by omega, rfl, rfl, by simp [wasOf], Fr.refl _ _⟩
        case round =>
          obtain ⟨i, hi, rfl, rfl, rfl, HFr⟩ := hrel
          by_cases hlt : i < n0 + 1
          · have H3r := Lib.hid (H3.out.fr0 HFr.out)
            have hcs := wasOf_at HP.out HMp.out (i := i)
            have hb : wasOf p i < n0 + 2 := by unfold wasOf; split <;> omega
            have hmem : at' S i ∈ S := by rw [at_eq (by rw [HSl.out]; exact hlt)]; exact List.getElem_mem _
            have hbd := (HQf.out.2 _ hmem).2
            obtain ⟨s, hs⟩ : ∃ s, at' S i = s := ⟨_, rfl⟩
            obtain ⟨a0, a1, a2, a3⟩ := H3r.out.a4 (by rw [HSl.out]; exact hlt) hs
            rw [hs] at hbd
            have hne2 : (s.order == (n0 : Int) + 1 + 1) = false := by simp; omega
            clear hmem hbd
            by_cases ho : s.order = (j : Int) + 1
            · rcases hcs with ⟨m1, hip, m2, hw2⟩ | ⟨-, m1, hw2⟩
              · rw [hs] at m2
                have ha1 := atOf_no (k := (j : Int) + 1) (by rw [HSl.out]; exact hlt) (by rw [hs]; exact ho)
                have ho' : (s.order != (j : Int) + 1) = false := by simpa using ho
                have HA1 := Lib.hid ha1
                clear ha1
                generalize atOf S ((j : Int) + 1) i = a at *
                obtain ⟨d0, d1, d2, d3⟩ := H3r.out.m4 (by rw [HMl.out]; exact hb) m1
                dsimp only at d0 d1 d2 d3
                obtain ⟨e0, e1, e2, e3⟩ := H3r.out.m4 (i := wasOf p i + 1) (by rw [HMl.out]; unfold wasOf at *; rw [if_pos (by omega)] at *; omega) m2
                have hb2 : wasOf p i + 1 < n0 + 2 := by unfold wasOf at *; rw [if_pos (by omega)] at *; omega
                have HB1 := Lib.hid hw2
                clear hw2 m1 m2 hip
                clear hne2
                generalize wasOf p i = b at *
                have HO := Lib.hid ho
                have HS1 := Lib.hid hs
                clear ho hs
                obtain ⟨st, so, sd, sx⟩ := s
                dsimp only at *
                go_wp2_with fail
                go_quiet (fail)
                go_wp2_with fail
                go_roundw
                case rel => exact ⟨i + 1, by omega, by go_num, by rw [HA1.out] <;> go_num, by rw [← HB1.out] <;> go_num, by first | exact HFr.out | exact (HFr.out.drewN _).drewN _ | exact HFr.out.drewN _⟩
                case measure => simp [intOf]; omega
              · rw [hs] at m1
                have ha1 := atOf_no (k := (j : Int) + 1) (by rw [HSl.out]; exact hlt) (by rw [hs]; exact ho)
                have ho' : (s.order != (j : Int) + 1) = false := by simpa using ho
                have HA1 := Lib.hid ha1
                clear ha1
                generalize atOf S ((j : Int) + 1) i = a at *
                obtain ⟨d0, d1, d2, d3⟩ := H3r.out.m4 (by rw [HMl.out]; exact hb) m1
                have HB1 := Lib.hid hw2
                clear hw2 m1
                generalize wasOf p i = b at *
                have HO := Lib.hid ho
                have HS1 := Lib.hid hs
                clear ho hs
                obtain ⟨st, so, sd, sx⟩ := s
                dsimp only at *
                go_wp2_with fail
                go_quiet (fail)
                go_wp2_with fail
                go_roundw
                case rel => exact ⟨i + 1, by omega, by go_num, by rw [HA1.out] <;> go_num, by rw [← HB1.out] <;> go_num, by first | exact HFr.out | exact (HFr.out.drewN _).drewN _ | exact HFr.out.drewN _⟩
                case measure => simp [intOf]; omega
            · rcases hcs with ⟨m1, hip, m2, hw2⟩ | ⟨-, m1, hw2⟩
              · rw [hs] at m2
                obtain ⟨ha1, ha2, ha3⟩ := atOf_yes (k := (j : Int) + 1) (by rw [HSl.out]; exact hlt) (by rw [hs]; exact ho)
                rw [HD.out, HDl.out] at ha2
                rw [HD.out] at ha3
                obtain ⟨gL, rfl, -⟩ := Its.slice1 H3r.out.less (by rw [HDl.out]; omega)
                obtain ⟨c0, c1, c2, c3⟩ := H3r.out.less.cells4 rfl (j := atOf S ((j : Int) + 1) i) (by rw [HDl.out]; exact ha2)
                rw [ha3, hs] at c0 c1 c2 c3
                have ho' : (s.order != (j : Int) + 1) = true := by simpa using ho
                have HA1 := Lib.hid ha1
                clear ha1 ha3
                generalize atOf S ((j : Int) + 1) i = a at *
                obtain ⟨d0, d1, d2, d3⟩ := H3r.out.m4 (by rw [HMl.out]; exact hb) m1
                dsimp only at d0 d1 d2 d3
                obtain ⟨e0, e1, e2, e3⟩ := H3r.out.m4 (i := wasOf p i + 1) (by rw [HMl.out]; unfold wasOf at *; rw [if_pos (by omega)] at *; omega) m2
                have hb2 : wasOf p i + 1 < n0 + 2 := by unfold wasOf at *; rw [if_pos (by omega)] at *; omega
                have HB1 := Lib.hid hw2
                clear hw2 m1 m2 hip
                clear hne2
                generalize wasOf p i = b at *
                have HO := Lib.hid ho
                have HS1 := Lib.hid hs
                clear ho hs
                obtain ⟨st, so, sd, sx⟩ := s
                dsimp only at *
                go_wp2_with fail
                go_quiet (fail)
                go_wp2_with fail
                go_quiet (fail)
                go_wp2_with fail
                go_roundw
                case rel => exact ⟨i + 1, by omega, by go_num, by rw [HA1.out] <;> go_num, by rw [← HB1.out] <;> go_num, by first | exact HFr.out | exact (HFr.out.drewN _).drewN _ | exact HFr.out.drewN _⟩
                case measure => simp [intOf]; omega
              · rw [hs] at m1
                obtain ⟨ha1, ha2, ha3⟩ := atOf_yes (k := (j : Int) + 1) (by rw [HSl.out]; exact hlt) (by rw [hs]; exact ho)
                rw [HD.out, HDl.out] at ha2
                rw [HD.out] at ha3
                obtain ⟨gL, rfl, -⟩ := Its.slice1 H3r.out.less (by rw [HDl.out]; omega)
                obtain ⟨c0, c1, c2, c3⟩ := H3r.out.less.cells4 rfl (j := atOf S ((j : Int) + 1) i) (by rw [HDl.out]; exact ha2)
                rw [ha3, hs] at c0 c1 c2 c3
                have ho' : (s.order != (j : Int) + 1) = true := by simpa using ho
                have HA1 := Lib.hid ha1
                clear ha1 ha3
                generalize atOf S ((j : Int) + 1) i = a at *
                obtain ⟨d0, d1, d2, d3⟩ := H3r.out.m4 (by rw [HMl.out]; exact hb) m1
                have HB1 := Lib.hid hw2
                clear hw2 m1
                generalize wasOf p i = b at *
                have HO := Lib.hid ho
                have HS1 := Lib.hid hs
                clear ho hs
                obtain ⟨st, so, sd, sx⟩ := s
                dsimp only at *
                go_wp2_with fail
                go_quiet (fail)
                go_wp2_with fail
                go_quiet (fail)
                go_wp2_with fail
                go_roundw
                case rel => exact ⟨i + 1, by omega, by go_num, by rw [HA1.out] <;> go_num, by rw [← HB1.out] <;> go_num, by first | exact HFr.out | exact (HFr.out.drewN _).drewN _ | exact HFr.out.drewN _⟩
                case measure => simp [intOf]; omega
          · obtain rfl : i = n0 + 1 := by omega
            go_wp2_with fail
            have hno : ∀ x, x ∈ D → x.order ≠ (j : Int) + 1 := fun x hx => without_mem x (by rw [HD.out]; exact hx)
            have hno9 : ∀ x, x ∈ D → x.order ≠ 99 := fun x hx => by
              have h1 : x ∈ without S ((j : Int) + 1) := by rw [HD.out]; exact hx
              have h2 := (HQf.out.2 x (List.mem_filter.1 h1).1).2
              omega
            have HN1 := Lib.hid hno
            have HN9 := Lib.hid hno9
            clear hno hno9
            refine (wDropT wc qa va8 D D false _ ((j : Int) + 1) qb vb9 M _ _ (HT11.out.fr0 HFr.out).swap (hasB_no HN1.out) (without_no HN1.out)).mono ?_
            rintro e w12 ⟨rfl, va12, HT12, -⟩
            go_wp2_with fail
            refine (wDropT wc qa va12 D D false _ 99 qb vb9 M _ _ HT12.out (hasB_no HN9.out) (without_no HN9.out)).mono ?_
            rintro e w13 ⟨rfl, va13, HT13, -⟩
            go_wp2_with fail
            go_ret
            exact ⟨rfl, (HF1.out.trans0 HFx.out).trans0 HT13.out.fr⟩
end Go.Proofs.Ytbafgheblindmaa.queueDrops

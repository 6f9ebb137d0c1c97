/-
  QueuePlays: things come and go, are lost and doubled, deed by deed, in the order that the chapter says: the walk.
-/
import Derived.Test.YtbafgheblindmaaQPl2
import Derived.Test.YtbafgheblindmaaQDr2
namespace Go.Proofs.Ytbafgheblindmaa.queuePlays
open Go.RowKit Go.Proofs.Ytbafgheblindmaa
open Go.Proofs.Ytbafgheblindmaa.queueNext (cell_keep)

theorem dDoes (w0 : World) (qa qx : Nat) (va vx : Value) (S : List Itm) (last : Int) (kd ti od dt : Int) (s : ByteArray) (w : World) (h : TwoX w0 w qa va S last qx vx S last) (hS : S.length < 4000) (hl : last < 4000) (hk0 : 0 ≤ kd) (hk1 : kd ≤ 255) (ho0 : 0 ≤ od) (ho1 : od ≤ 255) :
    Calls Try.prog 14 #[.pointer (some ⟨qa, 0, none⟩), .pointer (some ⟨qx, 0, none⟩), .agg #[.int .u8 kd, .int .u64 ti, .int .u8 od, .int .i64 dt, .string s]] w (Did w0 qa qx S last) := by
  have h1 : kd % 7 < 3 ∨ kd % 7 = 3 ∨ kd % 7 = 4 ∨ kd % 7 = 5 ∨ kd % 7 = 6 := by omega
  rcases h1 with h1 | h1 | h1 | h1 | h1
  · exact does_add w0 qa qx va vx S last kd ti od dt s w h hS hl hk0 hk1 h1 ho0 ho1
  · cases S with
    | nil => exact does_pop0 w0 qa qx va vx last kd ti od dt s w h hS hl hk0 hk1 h1 ho0 ho1
    | cons y T => exact does_pop1 w0 qa qx va vx y.time y.order y.to y.data T last kd ti od dt s w h hS hl hk0 hk1 h1 ho0 ho1
  · exact does_drop w0 qa qx va vx S last kd ti od dt s w h hS hl hk0 hk1 h1 ho0 ho1
  · by_cases hx : ∃ x, x ∈ S ∧ x.order = od
    · obtain ⟨x, hx, ho⟩ := hx
      exact does_double w0 qa qx va vx S last kd ti od dt s x hx ho w h hS hl hk0 hk1 h1 ho0 ho1
    · exact does_doubleNo w0 qa qx va vx S last kd ti od dt s (fun x hm e => hx ⟨x, hm, e⟩) w h hS hl hk0 hk1 h1 ho0 ho1
  · cases S with
    | nil => exact does_next0 w0 qa qx va vx last kd ti od dt s w h hS hl hk0 hk1 h1 ho0 ho1
    | cons y T => exact does_next1 w0 qa qx va vx y.time y.order y.to y.data T last kd ti od dt s w h hS hl hk0 hk1 h1 ho0 ho1

/-- The deeds as they lie. -/
def Deeds (w : World) (b o n : Nat) : Prop := ∀ k, k < n → ∃ (kd ti od dt : Int) (s : ByteArray),
  w.cell? ⟨b, o + k * 5, none⟩ = some (.int .u8 kd) ∧ w.cell? ⟨b, o + k * 5 + 1, none⟩ = some (.int .u64 ti) ∧ w.cell? ⟨b, o + k * 5 + 2, none⟩ = some (.int .u8 od) ∧ w.cell? ⟨b, o + k * 5 + 3, none⟩ = some (.int .i64 dt) ∧ w.cell? ⟨b, o + k * 5 + 4, none⟩ = some (.string s) ∧ 0 ≤ kd ∧ kd ≤ 255 ∧ 0 ≤ od ∧ od ≤ 255

structure Rp (w1 w : World) (qa qx : Nat) (va vx : Value) (S : List Itm) (last : Int) (k : Nat) : Prop where
  two : TwoX w1 w qa va S last qx vx S last
  len : S.length ≤ k
  last_le : last ≤ k

theorem TwoX.start {w0 w1 : World} {qa : Nat} (ha : QW w0 w1 qa (.slice none 0 0) [] 0) : TwoX w0 (w1.alloc (.cells #[.slice none 0 0, .int .u64 0] 44)) qa (.slice none 0 0) [] 0 w1.heap.size (.slice none 0 0) [] 0 := by
  have h1 := ha.qs.lt.1
  have h3 := ha.hq
  have h4 := ha.fr.size
  refine ⟨ha.qs.fr0 ((Fr.refl _ _).alloc _), ⟨Blk.new _ _ _, World.ownsRow_nil _ _ _ _, by simp [Value.ownBlock]⟩, ?_, ?_, ?_, ha.fr.alloc _⟩
  · intro x hx hy
    simp [Value.ownBlock] at hx hy
    omega
  · intro x hx
    simp [Value.ownBlock] at hx
    omega
  · intro x hx
    simp [Value.ownBlock] at hx
    omega

theorem pLen (w0 : World) (qa : Nat) (va : Value) (S : List Itm) (la : Int) (qx : Nat) (vx : Value) (Sx : List Itm) (lx : Int) (n : Nat) (w : World) (h : TwoX w0 w qa va S la qx vx Sx lx) (hn : S.length = n) :
    Calls Try.prog 12 #[.pointer (some ⟨qa, 0, none⟩)] w fun e w' => e = .returned (.int .i64 n) ∧ w = w' := by
  subst hn; exact qLen qa va S la w h.a

set_option maxRecDepth 100000 in
set_option maxHeartbeats 40000000 in
theorem walkRow (b o : Nat) (len cap : Nat) (w : World) (hd : Deeds w b o len) (hlc : len ≤ cap) (hcm : cap ≤ maxLen) :
    Calls Try.prog 5 #[.slice (some ⟨b, o, none⟩) len cap] w fun e w' => e = .returned (.bool true) ∧ Fr [] w w' := by
  unfold maxLen at hcm
  have HD := Lib.hid hd
  clear hd
  go_enter Try.func5, Try.ntmps5
  go_wp2_with fail
  refine (fExamples w).mono ?_
  rintro e w1 ⟨rfl, f1⟩
  go_wp2_with fail
  refine (wNew w1).mono ?_
  rintro e w2 ⟨qa, rfl, H2⟩
  have HF1 := Lib.hid f1
  clear f1
  go_wp2_with fail
  have H3 := Lib.hid (TwoX.start H2.out)
  generalize w2.heap.size = qx at *
  go_loopw [6, 7] (fun iv _ wr => ∃ (k : Nat) (va vx : Value) (S : List Itm) (last : Int), k ≤ len ∧ k ≤ 100 ∧ iv = .int .i64 k ∧ Hid (Rp w1 wr qa qx va vx S last k)) (fun iv _ _ => 100 - (intOf iv).toNat)
  case atStart => exact ⟨0, _, _, [], 0, by omega, by omega, rfl, ⟨H3.out, by simp, by omega⟩⟩
  case round =>
    obtain ⟨k, va, vx, S, last, hk, hk100, rfl, HR⟩ := hrel
    by_cases hlt : k < len ∧ k < 100
    · obtain ⟨h1, h2⟩ := hlt
      obtain ⟨kd, ti, od, dt, s, c0, c1, c2, c3, c4, hk0, hk1, ho0, ho1⟩ := HD.out k h1
      have hF := HF1.out.trans0 HR.out.two.fr
      have d0 := cell_keep hF c0
      have d1 := cell_keep hF c1
      have d2 := cell_keep hF c2
      have d3 := cell_keep hF c3
      have d4 := cell_keep hF c4
      have hS := HR.out.len
      have hL := HR.out.last_le
      clear c0 c1 c2 c3 c4 hF
      go_wp2_with fail
      refine (dDoes w1 qa qx va vx S last kd ti od dt s _ HR.out.two (by omega) (by omega) hk0 hk1 ho0 ho1).mono ?_
      rintro e w3 ⟨rfl, va3, vx3, S3, last3, hT3, hS3, hl3⟩
      have HT3 := Lib.hid hT3
      obtain ⟨n3, hn3⟩ : ∃ n, S3.length = n := ⟨_, rfl⟩
      have HN3 := Lib.hid hn3
      obtain ⟨a3, x3, hvx⟩ := hT3.b.slice
      rw [hn3] at hvx
      have q3 : w3.cell? ⟨qx, 0, none⟩ = some (.slice a3 n3 x3) := (hT3.b.blk.cellAt (i := 0) rfl).trans (by rw [hvx]; rfl)
      have hn : n3 ≤ k + 1 := by omega
      have hl4 : last3 ≤ (k : Int) + 1 := by omega
      clear hT3 hvx hS3 hl3 hn3 d0 d1 d2 d3 d4
      go_wp2_with fail
      go_region_held3 (fun wx => wx.cell? ⟨qx, 0, none⟩ = some (.slice a3 n3 x3))
        (go_keep)
        ((go_at_call 12; refine (pLen w1 qa va3 S3 last3 qx vx3 S3 last3 n3 _ (HT3.out.fr0 (Fr.refl _ _).drew) HN3.out).mono ?_; rintro e w4 ⟨rfl, rfl⟩))
      go_wp2_with fail
      go_roundw
      case rel => exact ⟨k + 1, va3, vx3, S3, last3, by omega, by omega, by go_num, ⟨HT3.out.fr0 (Fr.refl _ _).drew, by rw [HN3.out]; omega, by omega⟩⟩
      case measure => simp [intOf]; omega
    · have hS := HR.out.len
      obtain ⟨m, hm⟩ : ∃ n, S.length = n := ⟨_, rfl⟩
      have HM := Lib.hid hm
      rw [hm] at hS
      clear hm
      -- THE WAYS OUT
      have hq0 : ∃ a3 x3, Hid (vx = .slice a3 m x3) := by
        obtain ⟨a3, x3, e⟩ := HR.out.two.b.slice
        rw [HM.out] at e
        exact ⟨a3, x3, e⟩
      obtain ⟨a3, x3, HV⟩ := hq0
      by_cases h1 : k < len
      · have h2 : ¬ k < 100 := fun h => hlt ⟨h1, h⟩
        clear hlt
        go_wp2_with fail
        refine (queueDrops.wAllT qa va S last m _ HR.out.two.a HM.out).mono ?_
        rintro e w5 ⟨aA, cA, rfl, HIA, F5⟩
        have HT5 := Lib.hid (HR.out.two.fr0 F5.out)
        have q5 : w5.cell? ⟨qx, 0, none⟩ = some (.slice a3 m x3) := (HT5.out.b.blk.cellAt (i := 0) rfl).trans (by rw [HV.out]; rfl)
        have HI5 := Lib.hid HIA.out.1
        clear HIA
        go_wp2_with fail
        go_loopw [9] (fun iv wr => ∃ i : Nat, i ≤ m ∧ iv = .int .i64 i ∧ Hid (Fr [] w5 wr)) (fun iv _ => m - (intOf iv).toNat)
        case atStart => exact ⟨0, by omega, rfl, Fr.refl _ _⟩
        case round =>
          obtain ⟨i, hi, rfl, HFr⟩ := hrel
          by_cases hlt2 : i < m
          · have hSl := HM.out
            obtain ⟨gA, rfl, -⟩ := queueDrops.Its.slice1 HI5.out (by omega)
            obtain ⟨c0, c1, c2, c3⟩ := (HI5.out.fr0 HFr.out).cells4 rfl (j := i) (by omega)
            have HB6 := Lib.hid (HT5.out.b.fr0 HFr.out)
            obtain ⟨gX, cX, hgx⟩ := HB6.out.row (by omega)
            have hv := HV.out
            rw [hgx] at hv
            injection hv with hv1 hv2 hv3
            subst hv1
            obtain ⟨d0, d1, d2, d3⟩ := row4 HB6.out.its (g := gX) (by rw [hgx]; rfl) (j := i) (by omega)
            have q6 : wr.cell? ⟨qx, 0, none⟩ = some (.slice (some ⟨gX, 0, none⟩) m x3) := (HB6.out.blk.cellAt (i := 0) rfl).trans (by rw [HV.out]; rfl)
            clear hgx hv2 hv3 hSl
            generalize at' S i = x at *
            obtain ⟨t, o', d, xs⟩ := x
            dsimp only at c0 c1 c2 c3 d0 d1 d2 d3
            have hneq := fun t o d s w => neqRef t o d s w
            have hgd := guardRef
            have HK : Hid (∀ wx, Fr [] wr wx → (wx.cell? ⟨gA, i * 4, none⟩ = some (.int .u64 t) ∧ wx.cell? ⟨gA, i * 4 + 1, none⟩ = some (.int .u64 o') ∧ wx.cell? ⟨gA, i * 4 + 2, none⟩ = some (.int .i64 d) ∧ wx.cell? ⟨gA, i * 4 + 3, none⟩ = some (.string xs)) ∧ (wx.cell? ⟨gX, i * 4, none⟩ = some (.int .u64 t) ∧ wx.cell? ⟨gX, i * 4 + 1, none⟩ = some (.int .u64 o') ∧ wx.cell? ⟨gX, i * 4 + 2, none⟩ = some (.int .i64 d) ∧ wx.cell? ⟨gX, i * 4 + 3, none⟩ = some (.string xs)) ∧ wx.cell? ⟨qx, 0, none⟩ = some (.slice (some ⟨gX, 0, none⟩) m x3)) := fun wx f => ⟨⟨cell_keep f c0, cell_keep f c1, cell_keep f c2, cell_keep f c3⟩, ⟨cell_keep f d0, cell_keep f d1, cell_keep f d2, cell_keep f d3⟩, cell_keep f q6⟩
            go_wp2_with fail
            go_region_held3 (fun wx => (wx.cell? ⟨gA, i * 4, none⟩ = some (.int .u64 t) ∧ wx.cell? ⟨gA, i * 4 + 1, none⟩ = some (.int .u64 o') ∧ wx.cell? ⟨gA, i * 4 + 2, none⟩ = some (.int .i64 d) ∧ wx.cell? ⟨gA, i * 4 + 3, none⟩ = some (.string xs)) ∧ (wx.cell? ⟨gX, i * 4, none⟩ = some (.int .u64 t) ∧ wx.cell? ⟨gX, i * 4 + 1, none⟩ = some (.int .u64 o') ∧ wx.cell? ⟨gX, i * 4 + 2, none⟩ = some (.int .i64 d) ∧ wx.cell? ⟨gX, i * 4 + 3, none⟩ = some (.string xs)) ∧ wx.cell? ⟨qx, 0, none⟩ = some (.slice (some ⟨gX, 0, none⟩) m x3))
              (first | go_keep | exact HK.out _ fq.out)
              ((go_at_call 16; refine (refC _ _ _ _ _).mono ?_; rintro e w6 ⟨rfl, fr6⟩; have fq := Lib.hid ((Fr.refl [] wr).drew.trans0 fr6); clear fr6))
            go_wp2_with fail
            go_roundw
            case rel => exact ⟨i + 1, by omega, by go_num, HFr.out.trans0 fq.out⟩
            case measure => simp [intOf]; omega
          · obtain rfl : i = m := by omega
            go_wp2_with fail
            go_ret
            exact ⟨rfl, (HF1.out.trans0 HT5.out.fr).trans0 HFr.out⟩
      · clear hlt
        go_wp2_with fail
        refine (queueDrops.wAllT qa va S last m _ HR.out.two.a HM.out).mono ?_
        rintro e w5 ⟨aA, cA, rfl, HIA, F5⟩
        have HT5 := Lib.hid (HR.out.two.fr0 F5.out)
        have q5 : w5.cell? ⟨qx, 0, none⟩ = some (.slice a3 m x3) := (HT5.out.b.blk.cellAt (i := 0) rfl).trans (by rw [HV.out]; rfl)
        have HI5 := Lib.hid HIA.out.1
        clear HIA
        go_wp2_with fail
        go_loopw [9] (fun iv wr => ∃ i : Nat, i ≤ m ∧ iv = .int .i64 i ∧ Hid (Fr [] w5 wr)) (fun iv _ => m - (intOf iv).toNat)
        case atStart => exact ⟨0, by omega, rfl, Fr.refl _ _⟩
        case round =>
          obtain ⟨i, hi, rfl, HFr⟩ := hrel
          by_cases hlt2 : i < m
          · have hSl := HM.out
            obtain ⟨gA, rfl, -⟩ := queueDrops.Its.slice1 HI5.out (by omega)
            obtain ⟨c0, c1, c2, c3⟩ := (HI5.out.fr0 HFr.out).cells4 rfl (j := i) (by omega)
            have HB6 := Lib.hid (HT5.out.b.fr0 HFr.out)
            obtain ⟨gX, cX, hgx⟩ := HB6.out.row (by omega)
            have hv := HV.out
            rw [hgx] at hv
            injection hv with hv1 hv2 hv3
            subst hv1
            obtain ⟨d0, d1, d2, d3⟩ := row4 HB6.out.its (g := gX) (by rw [hgx]; rfl) (j := i) (by omega)
            have q6 : wr.cell? ⟨qx, 0, none⟩ = some (.slice (some ⟨gX, 0, none⟩) m x3) := (HB6.out.blk.cellAt (i := 0) rfl).trans (by rw [HV.out]; rfl)
            clear hgx hv2 hv3 hSl
            generalize at' S i = x at *
            obtain ⟨t, o', d, xs⟩ := x
            dsimp only at c0 c1 c2 c3 d0 d1 d2 d3
            have hneq := fun t o d s w => neqRef t o d s w
            have hgd := guardRef
            have HK : Hid (∀ wx, Fr [] wr wx → (wx.cell? ⟨gA, i * 4, none⟩ = some (.int .u64 t) ∧ wx.cell? ⟨gA, i * 4 + 1, none⟩ = some (.int .u64 o') ∧ wx.cell? ⟨gA, i * 4 + 2, none⟩ = some (.int .i64 d) ∧ wx.cell? ⟨gA, i * 4 + 3, none⟩ = some (.string xs)) ∧ (wx.cell? ⟨gX, i * 4, none⟩ = some (.int .u64 t) ∧ wx.cell? ⟨gX, i * 4 + 1, none⟩ = some (.int .u64 o') ∧ wx.cell? ⟨gX, i * 4 + 2, none⟩ = some (.int .i64 d) ∧ wx.cell? ⟨gX, i * 4 + 3, none⟩ = some (.string xs)) ∧ wx.cell? ⟨qx, 0, none⟩ = some (.slice (some ⟨gX, 0, none⟩) m x3)) := fun wx f => ⟨⟨cell_keep f c0, cell_keep f c1, cell_keep f c2, cell_keep f c3⟩, ⟨cell_keep f d0, cell_keep f d1, cell_keep f d2, cell_keep f d3⟩, cell_keep f q6⟩
            go_wp2_with fail
            go_region_held3 (fun wx => (wx.cell? ⟨gA, i * 4, none⟩ = some (.int .u64 t) ∧ wx.cell? ⟨gA, i * 4 + 1, none⟩ = some (.int .u64 o') ∧ wx.cell? ⟨gA, i * 4 + 2, none⟩ = some (.int .i64 d) ∧ wx.cell? ⟨gA, i * 4 + 3, none⟩ = some (.string xs)) ∧ (wx.cell? ⟨gX, i * 4, none⟩ = some (.int .u64 t) ∧ wx.cell? ⟨gX, i * 4 + 1, none⟩ = some (.int .u64 o') ∧ wx.cell? ⟨gX, i * 4 + 2, none⟩ = some (.int .i64 d) ∧ wx.cell? ⟨gX, i * 4 + 3, none⟩ = some (.string xs)) ∧ wx.cell? ⟨qx, 0, none⟩ = some (.slice (some ⟨gX, 0, none⟩) m x3))
              (first | go_keep | exact HK.out _ fq.out)
              ((go_at_call 16; refine (refC _ _ _ _ _).mono ?_; rintro e w6 ⟨rfl, fr6⟩; have fq := Lib.hid ((Fr.refl [] wr).drew.trans0 fr6); clear fr6))
            go_wp2_with fail
            go_roundw
            case rel => exact ⟨i + 1, by omega, by go_num, HFr.out.trans0 fq.out⟩
            case measure => simp [intOf]; omega
          · obtain rfl : i = m := by omega
            go_wp2_with fail
            go_ret
            exact ⟨rfl, (HF1.out.trans0 HT5.out.fr).trans0 HFr.out⟩
end Go.Proofs.Ytbafgheblindmaa.queuePlays

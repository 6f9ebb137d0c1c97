/-
  pintlelaw18's does: a deed on the queue and on the document's own: they answer alike.
-/
import Derived.Test.YtbafgheblindmaaQPl
namespace Go.Proofs.Ytbafgheblindmaa.queuePlays
open Go.RowKit Go.Proofs.Ytbafgheblindmaa

/-- What a deed leaves. -/
def Did (w0 : World) (qa qx : Nat) (S : List Itm) (last : Int) (e : Ending) (w' : World) : Prop :=
  e = .returned (.bool true) ∧ ∃ va' vx' S' last', TwoX w0 w' qa va' S' last' qx vx' S' last' ∧ S'.length ≤ S.length + 1 ∧ last' ≤ last + 1

theorem TwoX.pos {w0 w : World} {qa qx : Nat} {va vx : Value} {Sa Sx : List Itm} {la lx : Int} (h : TwoX w0 w qa va Sa la qx vx Sx lx) : 0 ≤ la ∧ Sa.Pairwise (fun a b => a.order ≠ b.order) := by
  obtain ⟨L, _, hO⟩ := h.a
  exact ⟨hO.last0, hO.uniq⟩

theorem pPop0 (w0 : World) (qa : Nat) (va : Value) (la : Int) (qx : Nat) (vx : Value) (Sx : List Itm) (lx : Int) (w : World) (h : TwoX w0 w qa va [] la qx vx Sx lx) :
    Calls Try.prog 11 #[.pointer (some ⟨qa, 0, none⟩)] w fun e w' => e = .returned (.tuple #[.agg #[.int .u64 0, .int .u64 0, .int .i64 0, .string ⟨#[]⟩], .bool false]) ∧ Hid (Fr [] w w') := qPop0 qa va la w h.a
theorem pPop1 (w0 : World) (qa : Nat) (va : Value) (la : Int) (ht ho hd : Int) (hs : ByteArray) (T : List Itm) (qx : Nat) (vx : Value) (Sx : List Itm) (lx : Int) (w : World) (h : TwoX w0 w qa va (⟨ht, ho, hd, hs⟩ :: T) la qx vx Sx lx) :
    Calls Try.prog 11 #[.pointer (some ⟨qa, 0, none⟩)] w fun e w' => e = .returned (.tuple #[.agg #[.int .u64 ht, .int .u64 ho, .int .i64 hd, .string hs], .bool true]) ∧ ∃ v', Hid (TwoX w0 w' qa v' T la qx vx Sx lx) ∧ Hid (Kept qa va w v' w') :=
  (qPop qa va ⟨ht, ho, hd, hs⟩ T la w h.a).mono fun _ _ ⟨h1, v', h2, h3⟩ => ⟨h1, v', h.stepA h2 h3, h3⟩
theorem xPop1 (w0 : World) (qa : Nat) (va : Value) (Sa : List Itm) (la : Int) (ht ho hd : Int) (hs : ByteArray) (T : List Itm) (qx : Nat) (vx : Value) (lx : Int) (w : World) (h4 : T.length < 4096) (h : TwoX w0 w qa va Sa la qx vx (⟨ht, ho, hd, hs⟩ :: T) lx) :
    Calls Try.prog 23 #[.pointer (some ⟨qx, 0, none⟩)] w fun e w' => e = .returned (.tuple #[.agg #[.int .u64 ht, .int .u64 ho, .int .i64 hd, .string hs], .bool true]) ∧ ∃ v', Hid (TwoX w0 w' qa va Sa la qx v' T lx) ∧ Hid (Kept qx vx w v' w') :=
  (rPop qx vx ht ho hd hs T lx w h.b h4).mono fun _ _ ⟨h1, v', h2, h3⟩ => ⟨h1, v', h.stepX h2.out h3.out, h3⟩
theorem pNext0 (w0 : World) (qa : Nat) (va : Value) (la : Int) (qx : Nat) (vx : Value) (Sx : List Itm) (lx : Int) (w : World) (h : TwoX w0 w qa va [] la qx vx Sx lx) :
    Calls Try.prog 18 #[.pointer (some ⟨qa, 0, none⟩)] w fun e w' => e = .returned (.tuple #[.agg #[.int .u64 0, .int .u64 0, .int .i64 0, .string ⟨#[]⟩], .bool false]) ∧ Hid (Fr [] w w') := qNext qa va [] la w h.a
theorem pNext1 (w0 : World) (qa : Nat) (va : Value) (la : Int) (ht ho hd : Int) (hs : ByteArray) (T : List Itm) (qx : Nat) (vx : Value) (Sx : List Itm) (lx : Int) (w : World) (h : TwoX w0 w qa va (⟨ht, ho, hd, hs⟩ :: T) la qx vx Sx lx) :
    Calls Try.prog 18 #[.pointer (some ⟨qa, 0, none⟩)] w fun e w' => e = .returned (.tuple #[.agg #[.int .u64 ht, .int .u64 ho, .int .i64 hd, .string hs], .bool true]) ∧ Hid (Fr [] w w') := qNext qa va (⟨ht, ho, hd, hs⟩ :: T) la w h.a
theorem pAdd (w0 : World) (qa : Nat) (va : Value) (S : List Itm) (la t d : Int) (s : ByteArray) (qx : Nat) (vx : Value) (Sx : List Itm) (lx : Int) (w : World) (h : TwoX w0 w qa va S la qx vx Sx lx) (hf : S.length < 4096) (hl : la ≤ 1000000) :
    Calls Try.prog 10 #[.pointer (some ⟨qa, 0, none⟩), .int .u64 t, .int .i64 d, .string s] w fun e w' => e = .returned (.tuple #[.int .u64 (la + 1), .int .i64 0]) ∧ ∃ v', Hid (TwoX w0 w' qa v' (ins ⟨t, la + 1, d, s⟩ S) (la + 1) qx vx Sx lx) ∧ Hid (Kept qa va w v' w') :=
  (qAdd qa va S la t d s w h.a hf hl).mono fun _ _ ⟨h1, v', h2, h3⟩ => ⟨h1, v', h.stepA h2 h3, h3⟩
theorem xAdd (w0 : World) (qa : Nat) (va : Value) (Sa : List Itm) (la t d : Int) (s : ByteArray) (qx : Nat) (vx : Value) (Sx : List Itm) (lx : Int) (w : World) (h : TwoX w0 w qa va Sa la qx vx Sx lx) (hf : Sx.length < 4096) (h0 : 0 ≤ lx) (hl : lx ≤ 1000000) :
    Calls Try.prog 27 #[.pointer (some ⟨qx, 0, none⟩), .int .u64 t, .int .i64 d, .string s] w fun e w' => e = .returned (.tuple #[.int .u64 (lx + 1), .int .i64 0]) ∧ ∃ v', Hid (TwoX w0 w' qa va Sa la qx v' (ins ⟨t, lx + 1, d, s⟩ Sx) (lx + 1)) ∧ Hid (Kept qx vx w v' w') :=
  (rAdd qx vx Sx _ lx (lx + 1) t d s w h.b hf h0 hl rfl rfl).mono fun _ _ ⟨h1, v', h2, h3⟩ => ⟨h1, v', h.stepX h2.out h3.out, h3⟩
theorem pDouble (w0 : World) (qa : Nat) (va : Value) (S : List Itm) (la o t : Int) (x : Itm) (qx : Nat) (vx : Value) (Sx : List Itm) (lx : Int) (w : World) (h : TwoX w0 w qa va S la qx vx Sx lx) (hx : x ∈ S) (ho : x.order = o) (hf : S.length < 4096) (hl : la ≤ 1000000) :
    Calls Try.prog 13 #[.pointer (some ⟨qa, 0, none⟩), .int .u64 o, .int .u64 t] w fun e w' => e = .returned (.tuple #[.int .u64 (la + 1), .bool true]) ∧ ∃ v', Hid (TwoX w0 w' qa v' (ins ⟨t, la + 1, x.to, x.data⟩ S) (la + 1) qx vx Sx lx) ∧ Hid (Kept qa va w v' w') :=
  (qDouble qa va S la o t x w h.a hx ho hf hl).mono fun _ _ ⟨h1, v', h2, h3⟩ => ⟨h1, v', h.stepA h2 h3, h3⟩
theorem xDouble (w0 : World) (qa : Nat) (va : Value) (Sa : List Itm) (la o t : Int) (x : Itm) (qx : Nat) (vx : Value) (Sx : List Itm) (lx : Int) (w : World) (h : TwoX w0 w qa va Sa la qx vx Sx lx) (hu : Sx.Pairwise (fun a b => a.order ≠ b.order)) (hx : x ∈ Sx) (ho : x.order = o) (hf : Sx.length < 4096) (h0 : 0 ≤ lx) (hl : lx ≤ 1000000) :
    Calls Try.prog 25 #[.pointer (some ⟨qx, 0, none⟩), .int .u64 o, .int .u64 t] w fun e w' => e = .returned (.tuple #[.int .u64 (lx + 1), .bool true]) ∧ ∃ v', Hid (TwoX w0 w' qa va Sa la qx v' (ins ⟨t, lx + 1, x.to, x.data⟩ Sx) (lx + 1)) ∧ Hid (Kept qx vx w v' w') :=
  (rDouble qx vx Sx lx o t x w h.b hf hu hx ho h0 hl).mono fun _ _ ⟨h1, v', h2, h3⟩ => ⟨h1, v', h.stepX h2.out h3.out, h3⟩
theorem It4.of2 {w : World} {b : Nat} {t o d : Int} {s : ByteArray} {T : TypeId} (h : Blk w b #[.int .u64 t, .int .u64 o, .int .i64 d, .string s] T) :
    w.cell? ⟨b, 0, none⟩ = some (.int .u64 t) ∧ w.cell? ⟨b, 1, none⟩ = some (.int .u64 o) ∧ w.cell? ⟨b, 2, none⟩ = some (.int .i64 d) ∧ w.cell? ⟨b, 3, none⟩ = some (.string s) :=
  ⟨h.cellAt (i := 0) rfl, h.cellAt (i := 1) rfl, h.cellAt (i := 2) rfl, h.cellAt (i := 3) rfl⟩

set_option maxRecDepth 100000 in
set_option maxHeartbeats 8000000 in
theorem does_pop0 (w0 : World) (qa qx : Nat) (va vx : Value) (last : Int) (kd ti od dt : Int) (s : ByteArray) (w : World) (h : TwoX w0 w qa va [] last qx vx [] last) (hS : ([] : List Itm).length < 4000) (hl : last < 4000) (hk0 : 0 ≤ kd) (hk1 : kd ≤ 255) (hk : kd % 7 = 3) (ho0 : 0 ≤ od) (ho1 : od ≤ 255) :
    Calls Try.prog 14 #[.pointer (some ⟨qa, 0, none⟩), .pointer (some ⟨qx, 0, none⟩), .agg #[.int .u8 kd, .int .u64 ti, .int .u8 od, .int .i64 dt, .string s]] w (Did w0 qa qx [] last) := by
  have hm3 : (kd % 7 == 3) = true := by simp; omega
  have hl0 := h.pos.1
  have HU := Lib.hid h.pos.2
  have HB : Hid (Off (w.alloc (.cells #[.int .u8 kd, .int .u64 ti, .int .u8 od, .int .i64 dt, .string s] 47)) w.heap.size #[.int .u8 kd, .int .u64 ti, .int .u8 od, .int .i64 dt, .string s] 47 qa va qx vx) := Off.new h (Blk.new _ _ _) (Nat.le_refl _)
  have HT : Hid (TwoX w0 (w.alloc (.cells #[.int .u8 kd, .int .u64 ti, .int .u8 od, .int .i64 dt, .string s] 47)) qa va [] last qx vx [] last) := h.fr0 ((Fr.refl _ _).alloc _)
  have hwu : IntKind.u64.wrap od = od := by simp [IntKind.wrap, IntKind.bits, IntKind.signed]; omega
  clear h hk
  go_enter Try.func14, Try.ntmps14
  go_wp2_with fail
  clear HB
  refine (pPop0 w0 qa va last qx vx [] last _ HT.out).mono ?_
  rintro e w1 ⟨rfl, F1⟩
  have HT1 := Lib.hid (HT.out.fr0 F1.out)
  go_wp2_with fail
  have HY := Lib.hid (Off.new HT1.out (Blk.new w1 #[.int .u64 0, .int .u64 0, .int .i64 0, .string ⟨#[]⟩] 31) (Nat.le_refl _))
  have HT2 := Lib.hid (HT1.out.fr0 ((Fr.refl [] w1).alloc (.cells #[.int .u64 0, .int .u64 0, .int .i64 0, .string ⟨#[]⟩] 31)))
  refine (rPop0 qx vx last _ HT2.out.b).mono ?_
  rintro e w3 ⟨rfl, F3⟩
  have HT3 := Lib.hid (HT2.out.fr0 F3.out)
  have HY3 := Lib.hid (HY.out.fr0 F3.out)
  go_wp2_with fail
  have BZ : Hid (Blk (w3.alloc (.cells #[.int .u64 0, .int .u64 0, .int .i64 0, .string ⟨#[]⟩] 50)) w3.heap.size #[.int .u64 0, .int .u64 0, .int .i64 0, .string ⟨#[]⟩] 50) := Blk.new _ _ _
  have BY : Hid (Blk (w3.alloc (.cells #[.int .u64 0, .int .u64 0, .int .i64 0, .string ⟨#[]⟩] 50)) w1.heap.size #[.int .u64 0, .int .u64 0, .int .i64 0, .string ⟨#[]⟩] 31) := HY3.out.1.alloc _
  have HT4 := Lib.hid (HT3.out.fr0 ((Fr.refl [] w3).alloc (.cells #[.int .u64 0, .int .u64 0, .int .i64 0, .string ⟨#[]⟩] 50)))
  clear HT HT1 HT2 HT3 HY HY3
  generalize (w3.alloc (.cells #[.int .u64 0, .int .u64 0, .int .i64 0, .string ⟨#[]⟩] 50)) = w4 at *
  generalize w3.heap.size = bz at *
  generalize w1.heap.size = ba at *
  obtain ⟨y0, y1, y2, y3⟩ := It4.of2 BY.out
  obtain ⟨z0, z1, z2, z3⟩ := It4.of2 BZ.out
  have HK : Hid (∀ wx, Fr [] w4 wx → (wx.cell? ⟨ba, 0, none⟩ = some (.int .u64 0) ∧ wx.cell? ⟨ba, 1, none⟩ = some (.int .u64 0) ∧ wx.cell? ⟨ba, 2, none⟩ = some (.int .i64 0) ∧ wx.cell? ⟨ba, 3, none⟩ = some (.string ⟨#[]⟩)) ∧ wx.cell? ⟨bz, 0, none⟩ = some (.int .u64 0) ∧ wx.cell? ⟨bz, 1, none⟩ = some (.int .u64 0) ∧ wx.cell? ⟨bz, 2, none⟩ = some (.int .i64 0) ∧ wx.cell? ⟨bz, 3, none⟩ = some (.string ⟨#[]⟩)) := fun wx f => ⟨It4.of2 (BY.out.fr0 f), It4.of2 (BZ.out.fr0 f)⟩
  have heq := fun t o d s w => eqlRef t o d s w
  have hgd := guardRef
  go_region_held3 (fun wx => (wx.cell? ⟨ba, 0, none⟩ = some (.int .u64 0) ∧ wx.cell? ⟨ba, 1, none⟩ = some (.int .u64 0) ∧ wx.cell? ⟨ba, 2, none⟩ = some (.int .i64 0) ∧ wx.cell? ⟨ba, 3, none⟩ = some (.string ⟨#[]⟩)) ∧ wx.cell? ⟨bz, 0, none⟩ = some (.int .u64 0) ∧ wx.cell? ⟨bz, 1, none⟩ = some (.int .u64 0) ∧ wx.cell? ⟨bz, 2, none⟩ = some (.int .i64 0) ∧ wx.cell? ⟨bz, 3, none⟩ = some (.string ⟨#[]⟩))
    (first | go_keep | exact HK.out _ fq.out)
    ((go_at_call 16; refine (refC _ _ _ _ _).mono ?_; rintro e w5 ⟨rfl, fr5⟩; have fq := Lib.hid ((Fr.refl [] w4).drew.trans0 fr5); clear fr5))
  go_wp2_with fail
  go_ret
  exact ⟨rfl, _, _, [], last, HT4.out.fr0 fq.out, by simp, by omega⟩

set_option maxRecDepth 100000 in
set_option maxHeartbeats 8000000 in
theorem does_pop1 (w0 : World) (qa qx : Nat) (va vx : Value) (ht ho hd : Int) (hs : ByteArray) (T : List Itm) (last : Int) (kd ti od dt : Int) (s : ByteArray) (w : World) (h : TwoX w0 w qa va (⟨ht, ho, hd, hs⟩ :: T) last qx vx (⟨ht, ho, hd, hs⟩ :: T) last) (hS : ((⟨ht, ho, hd, hs⟩ :: T) : List Itm).length < 4000) (hl : last < 4000) (hk0 : 0 ≤ kd) (hk1 : kd ≤ 255) (hk : kd % 7 = 3) (ho0 : 0 ≤ od) (ho1 : od ≤ 255) :
    Calls Try.prog 14 #[.pointer (some ⟨qa, 0, none⟩), .pointer (some ⟨qx, 0, none⟩), .agg #[.int .u8 kd, .int .u64 ti, .int .u8 od, .int .i64 dt, .string s]] w (Did w0 qa qx (⟨ht, ho, hd, hs⟩ :: T) last) := by
  have hm3 : (kd % 7 == 3) = true := by simp; omega
  have hl0 := h.pos.1
  have HU := Lib.hid h.pos.2
  have HB : Hid (Off (w.alloc (.cells #[.int .u8 kd, .int .u64 ti, .int .u8 od, .int .i64 dt, .string s] 47)) w.heap.size #[.int .u8 kd, .int .u64 ti, .int .u8 od, .int .i64 dt, .string s] 47 qa va qx vx) := Off.new h (Blk.new _ _ _) (Nat.le_refl _)
  have HT : Hid (TwoX w0 (w.alloc (.cells #[.int .u8 kd, .int .u64 ti, .int .u8 od, .int .i64 dt, .string s] 47)) qa va (⟨ht, ho, hd, hs⟩ :: T) last qx vx (⟨ht, ho, hd, hs⟩ :: T) last) := h.fr0 ((Fr.refl _ _).alloc _)
  have hwu : IntKind.u64.wrap od = od := by simp [IntKind.wrap, IntKind.bits, IntKind.signed]; omega
  clear h hk
  go_enter Try.func14, Try.ntmps14
  go_wp2_with fail
  clear HB
  refine (pPop1 w0 qa va last ht ho hd hs T qx vx _ last _ HT.out).mono ?_
  rintro e w1 ⟨rfl, va1, HT1, K1⟩
  go_wp2_with fail
  have HY := Lib.hid (Off.new HT1.out (Blk.new w1 #[.int .u64 ht, .int .u64 ho, .int .i64 hd, .string hs] 31) (Nat.le_refl _))
  have HT2 := Lib.hid (HT1.out.fr0 ((Fr.refl [] w1).alloc (.cells #[.int .u64 ht, .int .u64 ho, .int .i64 hd, .string hs] 31)))
  refine (xPop1 w0 qa va1 T last ht ho hd hs T qx vx last _ (by simp at hS; omega) HT2.out).mono ?_
  rintro e w3 ⟨rfl, vx3, HT3, K3⟩
  have HY3 := Lib.hid (HY.out.stepX K3.out)
  go_wp2_with fail
  have BZ : Hid (Blk (w3.alloc (.cells #[.int .u64 ht, .int .u64 ho, .int .i64 hd, .string hs] 50)) w3.heap.size #[.int .u64 ht, .int .u64 ho, .int .i64 hd, .string hs] 50) := Blk.new _ _ _
  have BY : Hid (Blk (w3.alloc (.cells #[.int .u64 ht, .int .u64 ho, .int .i64 hd, .string hs] 50)) w1.heap.size #[.int .u64 ht, .int .u64 ho, .int .i64 hd, .string hs] 31) := HY3.out.1.alloc _
  have HT4 := Lib.hid (HT3.out.fr0 ((Fr.refl [] w3).alloc (.cells #[.int .u64 ht, .int .u64 ho, .int .i64 hd, .string hs] 50)))
  clear HT HT1 HT2 HT3 HY HY3
  generalize (w3.alloc (.cells #[.int .u64 ht, .int .u64 ho, .int .i64 hd, .string hs] 50)) = w4 at *
  generalize w3.heap.size = bz at *
  generalize w1.heap.size = ba at *
  obtain ⟨y0, y1, y2, y3⟩ := It4.of2 BY.out
  obtain ⟨z0, z1, z2, z3⟩ := It4.of2 BZ.out
  have HK : Hid (∀ wx, Fr [] w4 wx → (wx.cell? ⟨ba, 0, none⟩ = some (.int .u64 ht) ∧ wx.cell? ⟨ba, 1, none⟩ = some (.int .u64 ho) ∧ wx.cell? ⟨ba, 2, none⟩ = some (.int .i64 hd) ∧ wx.cell? ⟨ba, 3, none⟩ = some (.string hs)) ∧ wx.cell? ⟨bz, 0, none⟩ = some (.int .u64 ht) ∧ wx.cell? ⟨bz, 1, none⟩ = some (.int .u64 ho) ∧ wx.cell? ⟨bz, 2, none⟩ = some (.int .i64 hd) ∧ wx.cell? ⟨bz, 3, none⟩ = some (.string hs)) := fun wx f => ⟨It4.of2 (BY.out.fr0 f), It4.of2 (BZ.out.fr0 f)⟩
  have heq := fun t o d s w => eqlRef t o d s w
  have hgd := guardRef
  go_region_held3 (fun wx => (wx.cell? ⟨ba, 0, none⟩ = some (.int .u64 ht) ∧ wx.cell? ⟨ba, 1, none⟩ = some (.int .u64 ho) ∧ wx.cell? ⟨ba, 2, none⟩ = some (.int .i64 hd) ∧ wx.cell? ⟨ba, 3, none⟩ = some (.string hs)) ∧ wx.cell? ⟨bz, 0, none⟩ = some (.int .u64 ht) ∧ wx.cell? ⟨bz, 1, none⟩ = some (.int .u64 ho) ∧ wx.cell? ⟨bz, 2, none⟩ = some (.int .i64 hd) ∧ wx.cell? ⟨bz, 3, none⟩ = some (.string hs))
    (first | go_keep | exact HK.out _ fq.out)
    ((go_at_call 16; refine (refC _ _ _ _ _).mono ?_; rintro e w5 ⟨rfl, fr5⟩; have fq := Lib.hid ((Fr.refl [] w4).drew.trans0 fr5); clear fr5))
  go_wp2_with fail
  go_ret
  exact ⟨rfl, _, _, T, last, HT4.out.fr0 fq.out, by simp; omega, by omega⟩

set_option maxRecDepth 100000 in
set_option maxHeartbeats 8000000 in
theorem does_next0 (w0 : World) (qa qx : Nat) (va vx : Value) (last : Int) (kd ti od dt : Int) (s : ByteArray) (w : World) (h : TwoX w0 w qa va [] last qx vx [] last) (hS : ([] : List Itm).length < 4000) (hl : last < 4000) (hk0 : 0 ≤ kd) (hk1 : kd ≤ 255) (hk : kd % 7 = 6) (ho0 : 0 ≤ od) (ho1 : od ≤ 255) :
    Calls Try.prog 14 #[.pointer (some ⟨qa, 0, none⟩), .pointer (some ⟨qx, 0, none⟩), .agg #[.int .u8 kd, .int .u64 ti, .int .u8 od, .int .i64 dt, .string s]] w (Did w0 qa qx [] last) := by
  have hm3 : (kd % 7 == 3) = false := by simp; omega
  have hm4 : (kd % 7 == 4) = false := by simp; omega
  have hm5 : (kd % 7 == 5) = false := by simp; omega
  have hm6 : (kd % 7 == 6) = true := by simp; omega
  have hl0 := h.pos.1
  have HU := Lib.hid h.pos.2
  have HB : Hid (Off (w.alloc (.cells #[.int .u8 kd, .int .u64 ti, .int .u8 od, .int .i64 dt, .string s] 47)) w.heap.size #[.int .u8 kd, .int .u64 ti, .int .u8 od, .int .i64 dt, .string s] 47 qa va qx vx) := Off.new h (Blk.new _ _ _) (Nat.le_refl _)
  have HT : Hid (TwoX w0 (w.alloc (.cells #[.int .u8 kd, .int .u64 ti, .int .u8 od, .int .i64 dt, .string s] 47)) qa va [] last qx vx [] last) := h.fr0 ((Fr.refl _ _).alloc _)
  have hwu : IntKind.u64.wrap od = od := by simp [IntKind.wrap, IntKind.bits, IntKind.signed]; omega
  clear h hk
  go_enter Try.func14, Try.ntmps14
  go_wp2_with fail
  clear HB
  refine (pNext0 w0 qa va last qx vx [] last _ HT.out).mono ?_
  rintro e w1 ⟨rfl, F1⟩
  have HT1 := Lib.hid (HT.out.fr0 F1.out)
  go_wp2_with fail
  have HY := Lib.hid (Off.new HT1.out (Blk.new w1 #[.int .u64 0, .int .u64 0, .int .i64 0, .string ⟨#[]⟩] 31) (Nat.le_refl _))
  have HT2 := Lib.hid (HT1.out.fr0 ((Fr.refl [] w1).alloc (.cells #[.int .u64 0, .int .u64 0, .int .i64 0, .string ⟨#[]⟩] 31)))
  refine (rNext0 qx vx last _ HT2.out.b).mono ?_
  rintro e w3 ⟨rfl, F3⟩
  have HT3 := Lib.hid (HT2.out.fr0 F3.out)
  have HY3 := Lib.hid (HY.out.fr0 F3.out)
  go_wp2_with fail
  have BZ : Hid (Blk (w3.alloc (.cells #[.int .u64 0, .int .u64 0, .int .i64 0, .string ⟨#[]⟩] 50)) w3.heap.size #[.int .u64 0, .int .u64 0, .int .i64 0, .string ⟨#[]⟩] 50) := Blk.new _ _ _
  have BY : Hid (Blk (w3.alloc (.cells #[.int .u64 0, .int .u64 0, .int .i64 0, .string ⟨#[]⟩] 50)) w1.heap.size #[.int .u64 0, .int .u64 0, .int .i64 0, .string ⟨#[]⟩] 31) := HY3.out.1.alloc _
  have HT4 := Lib.hid (HT3.out.fr0 ((Fr.refl [] w3).alloc (.cells #[.int .u64 0, .int .u64 0, .int .i64 0, .string ⟨#[]⟩] 50)))
  clear HT HT1 HT2 HT3 HY HY3
  generalize (w3.alloc (.cells #[.int .u64 0, .int .u64 0, .int .i64 0, .string ⟨#[]⟩] 50)) = w4 at *
  generalize w3.heap.size = bz at *
  generalize w1.heap.size = ba at *
  obtain ⟨y0, y1, y2, y3⟩ := It4.of2 BY.out
  obtain ⟨z0, z1, z2, z3⟩ := It4.of2 BZ.out
  have HK : Hid (∀ wx, Fr [] w4 wx → (wx.cell? ⟨ba, 0, none⟩ = some (.int .u64 0) ∧ wx.cell? ⟨ba, 1, none⟩ = some (.int .u64 0) ∧ wx.cell? ⟨ba, 2, none⟩ = some (.int .i64 0) ∧ wx.cell? ⟨ba, 3, none⟩ = some (.string ⟨#[]⟩)) ∧ wx.cell? ⟨bz, 0, none⟩ = some (.int .u64 0) ∧ wx.cell? ⟨bz, 1, none⟩ = some (.int .u64 0) ∧ wx.cell? ⟨bz, 2, none⟩ = some (.int .i64 0) ∧ wx.cell? ⟨bz, 3, none⟩ = some (.string ⟨#[]⟩)) := fun wx f => ⟨It4.of2 (BY.out.fr0 f), It4.of2 (BZ.out.fr0 f)⟩
  have heq := fun t o d s w => eqlRef t o d s w
  have hgd := guardRef
  go_region_held3 (fun wx => (wx.cell? ⟨ba, 0, none⟩ = some (.int .u64 0) ∧ wx.cell? ⟨ba, 1, none⟩ = some (.int .u64 0) ∧ wx.cell? ⟨ba, 2, none⟩ = some (.int .i64 0) ∧ wx.cell? ⟨ba, 3, none⟩ = some (.string ⟨#[]⟩)) ∧ wx.cell? ⟨bz, 0, none⟩ = some (.int .u64 0) ∧ wx.cell? ⟨bz, 1, none⟩ = some (.int .u64 0) ∧ wx.cell? ⟨bz, 2, none⟩ = some (.int .i64 0) ∧ wx.cell? ⟨bz, 3, none⟩ = some (.string ⟨#[]⟩))
    (first | go_keep | exact HK.out _ fq.out)
    ((go_at_call 16; refine (refC _ _ _ _ _).mono ?_; rintro e w5 ⟨rfl, fr5⟩; have fq := Lib.hid ((Fr.refl [] w4).drew.trans0 fr5); clear fr5))
  go_wp2_with fail
  go_ret
  exact ⟨rfl, _, _, [], last, HT4.out.fr0 fq.out, by simp, by omega⟩

set_option maxRecDepth 100000 in
set_option maxHeartbeats 8000000 in
theorem does_next1 (w0 : World) (qa qx : Nat) (va vx : Value) (ht ho hd : Int) (hs : ByteArray) (T : List Itm) (last : Int) (kd ti od dt : Int) (s : ByteArray) (w : World) (h : TwoX w0 w qa va (⟨ht, ho, hd, hs⟩ :: T) last qx vx (⟨ht, ho, hd, hs⟩ :: T) last) (hS : ((⟨ht, ho, hd, hs⟩ :: T) : List Itm).length < 4000) (hl : last < 4000) (hk0 : 0 ≤ kd) (hk1 : kd ≤ 255) (hk : kd % 7 = 6) (ho0 : 0 ≤ od) (ho1 : od ≤ 255) :
    Calls Try.prog 14 #[.pointer (some ⟨qa, 0, none⟩), .pointer (some ⟨qx, 0, none⟩), .agg #[.int .u8 kd, .int .u64 ti, .int .u8 od, .int .i64 dt, .string s]] w (Did w0 qa qx (⟨ht, ho, hd, hs⟩ :: T) last) := by
  have hm3 : (kd % 7 == 3) = false := by simp; omega
  have hm4 : (kd % 7 == 4) = false := by simp; omega
  have hm5 : (kd % 7 == 5) = false := by simp; omega
  have hm6 : (kd % 7 == 6) = true := by simp; omega
  have hl0 := h.pos.1
  have HU := Lib.hid h.pos.2
  have HB : Hid (Off (w.alloc (.cells #[.int .u8 kd, .int .u64 ti, .int .u8 od, .int .i64 dt, .string s] 47)) w.heap.size #[.int .u8 kd, .int .u64 ti, .int .u8 od, .int .i64 dt, .string s] 47 qa va qx vx) := Off.new h (Blk.new _ _ _) (Nat.le_refl _)
  have HT : Hid (TwoX w0 (w.alloc (.cells #[.int .u8 kd, .int .u64 ti, .int .u8 od, .int .i64 dt, .string s] 47)) qa va (⟨ht, ho, hd, hs⟩ :: T) last qx vx (⟨ht, ho, hd, hs⟩ :: T) last) := h.fr0 ((Fr.refl _ _).alloc _)
  have hwu : IntKind.u64.wrap od = od := by simp [IntKind.wrap, IntKind.bits, IntKind.signed]; omega
  clear h hk
  go_enter Try.func14, Try.ntmps14
  go_wp2_with fail
  clear HB
  refine (pNext1 w0 qa va last ht ho hd hs T qx vx _ last _ HT.out).mono ?_
  rintro e w1 ⟨rfl, F1⟩
  have HT1 := Lib.hid (HT.out.fr0 F1.out)
  go_wp2_with fail
  have HY := Lib.hid (Off.new HT1.out (Blk.new w1 #[.int .u64 ht, .int .u64 ho, .int .i64 hd, .string hs] 31) (Nat.le_refl _))
  have HT2 := Lib.hid (HT1.out.fr0 ((Fr.refl [] w1).alloc (.cells #[.int .u64 ht, .int .u64 ho, .int .i64 hd, .string hs] 31)))
  refine (rNext qx vx ht ho hd hs T last _ HT2.out.b).mono ?_
  rintro e w3 ⟨rfl, F3⟩
  have HT3 := Lib.hid (HT2.out.fr0 F3.out)
  have HY3 := Lib.hid (HY.out.fr0 F3.out)
  go_wp2_with fail
  have BZ : Hid (Blk (w3.alloc (.cells #[.int .u64 ht, .int .u64 ho, .int .i64 hd, .string hs] 50)) w3.heap.size #[.int .u64 ht, .int .u64 ho, .int .i64 hd, .string hs] 50) := Blk.new _ _ _
  have BY : Hid (Blk (w3.alloc (.cells #[.int .u64 ht, .int .u64 ho, .int .i64 hd, .string hs] 50)) w1.heap.size #[.int .u64 ht, .int .u64 ho, .int .i64 hd, .string hs] 31) := HY3.out.1.alloc _
  have HT4 := Lib.hid (HT3.out.fr0 ((Fr.refl [] w3).alloc (.cells #[.int .u64 ht, .int .u64 ho, .int .i64 hd, .string hs] 50)))
  clear HT HT1 HT2 HT3 HY HY3
  generalize (w3.alloc (.cells #[.int .u64 ht, .int .u64 ho, .int .i64 hd, .string hs] 50)) = w4 at *
  generalize w3.heap.size = bz at *
  generalize w1.heap.size = ba at *
  obtain ⟨y0, y1, y2, y3⟩ := It4.of2 BY.out
  obtain ⟨z0, z1, z2, z3⟩ := It4.of2 BZ.out
  have HK : Hid (∀ wx, Fr [] w4 wx → (wx.cell? ⟨ba, 0, none⟩ = some (.int .u64 ht) ∧ wx.cell? ⟨ba, 1, none⟩ = some (.int .u64 ho) ∧ wx.cell? ⟨ba, 2, none⟩ = some (.int .i64 hd) ∧ wx.cell? ⟨ba, 3, none⟩ = some (.string hs)) ∧ wx.cell? ⟨bz, 0, none⟩ = some (.int .u64 ht) ∧ wx.cell? ⟨bz, 1, none⟩ = some (.int .u64 ho) ∧ wx.cell? ⟨bz, 2, none⟩ = some (.int .i64 hd) ∧ wx.cell? ⟨bz, 3, none⟩ = some (.string hs)) := fun wx f => ⟨It4.of2 (BY.out.fr0 f), It4.of2 (BZ.out.fr0 f)⟩
  have heq := fun t o d s w => eqlRef t o d s w
  have hgd := guardRef
  go_region_held3 (fun wx => (wx.cell? ⟨ba, 0, none⟩ = some (.int .u64 ht) ∧ wx.cell? ⟨ba, 1, none⟩ = some (.int .u64 ho) ∧ wx.cell? ⟨ba, 2, none⟩ = some (.int .i64 hd) ∧ wx.cell? ⟨ba, 3, none⟩ = some (.string hs)) ∧ wx.cell? ⟨bz, 0, none⟩ = some (.int .u64 ht) ∧ wx.cell? ⟨bz, 1, none⟩ = some (.int .u64 ho) ∧ wx.cell? ⟨bz, 2, none⟩ = some (.int .i64 hd) ∧ wx.cell? ⟨bz, 3, none⟩ = some (.string hs))
    (first | go_keep | exact HK.out _ fq.out)
    ((go_at_call 16; refine (refC _ _ _ _ _).mono ?_; rintro e w5 ⟨rfl, fr5⟩; have fq := Lib.hid ((Fr.refl [] w4).drew.trans0 fr5); clear fr5))
  go_wp2_with fail
  go_ret
  exact ⟨rfl, _, _, (⟨ht, ho, hd, hs⟩ :: T), last, HT4.out.fr0 fq.out, by simp, by omega⟩

set_option maxRecDepth 100000 in
set_option maxHeartbeats 8000000 in
theorem does_add (w0 : World) (qa qx : Nat) (va vx : Value) (S : List Itm) (last : Int) (kd ti od dt : Int) (s : ByteArray) (w : World) (h : TwoX w0 w qa va S last qx vx S last) (hS : (S : List Itm).length < 4000) (hl : last < 4000) (hk0 : 0 ≤ kd) (hk1 : kd ≤ 255) (hk : kd % 7 < 3) (ho0 : 0 ≤ od) (ho1 : od ≤ 255) :
    Calls Try.prog 14 #[.pointer (some ⟨qa, 0, none⟩), .pointer (some ⟨qx, 0, none⟩), .agg #[.int .u8 kd, .int .u64 ti, .int .u8 od, .int .i64 dt, .string s]] w (Did w0 qa qx S last) := by
  have hm3 : (kd % 7 == 3) = false := by simp; omega
  have hm4 : (kd % 7 == 4) = false := by simp; omega
  have hm5 : (kd % 7 == 5) = false := by simp; omega
  have hm6 : (kd % 7 == 6) = false := by simp; omega
  have hl0 := h.pos.1
  have HU := Lib.hid h.pos.2
  have HB : Hid (Off (w.alloc (.cells #[.int .u8 kd, .int .u64 ti, .int .u8 od, .int .i64 dt, .string s] 47)) w.heap.size #[.int .u8 kd, .int .u64 ti, .int .u8 od, .int .i64 dt, .string s] 47 qa va qx vx) := Off.new h (Blk.new _ _ _) (Nat.le_refl _)
  have HT : Hid (TwoX w0 (w.alloc (.cells #[.int .u8 kd, .int .u64 ti, .int .u8 od, .int .i64 dt, .string s] 47)) qa va S last qx vx S last) := h.fr0 ((Fr.refl _ _).alloc _)
  have hwu : IntKind.u64.wrap od = od := by simp [IntKind.wrap, IntKind.bits, IntKind.signed]; omega
  clear h hk
  go_enter Try.func14, Try.ntmps14
  go_wp2_with fail
  refine (pAdd w0 qa va S last ti dt s qx vx S last _ HT.out (by omega) (by omega)).mono ?_
  rintro e w1 ⟨rfl, va1, HT1, K1⟩
  have y0 : w1.cell? ⟨w.heap.size, 0, none⟩ = some (.int .u8 kd) := (HB.out.stepA K1.out).1.cellAt (i := 0) rfl
  have y1 : w1.cell? ⟨w.heap.size, 1, none⟩ = some (.int .u64 ti) := (HB.out.stepA K1.out).1.cellAt (i := 1) rfl
  have y2 : w1.cell? ⟨w.heap.size, 2, none⟩ = some (.int .u8 od) := (HB.out.stepA K1.out).1.cellAt (i := 2) rfl
  have y3 : w1.cell? ⟨w.heap.size, 3, none⟩ = some (.int .i64 dt) := (HB.out.stepA K1.out).1.cellAt (i := 3) rfl
  have y4 : w1.cell? ⟨w.heap.size, 4, none⟩ = some (.string s) := (HB.out.stepA K1.out).1.cellAt (i := 4) rfl
  clear HB HT
  go_wp2_with fail
  refine (xAdd w0 qa va1 _ (last + 1) ti dt s qx vx S last _ HT1.out (by omega) hl0 (by omega)).mono ?_
  rintro e w2 ⟨rfl, vx2, HT2, K2⟩
  go_wp2_with fail
  go_ret
  exact ⟨rfl, _, _, _, last + 1, HT2.out, by rw [queueNext.ins_len]; omega, by omega⟩

set_option maxRecDepth 100000 in
set_option maxHeartbeats 8000000 in
theorem does_double (w0 : World) (qa qx : Nat) (va vx : Value) (S : List Itm) (last : Int) (kd ti od dt : Int) (s : ByteArray) (x : Itm) (hx : x ∈ S) (hxo : x.order = od) (w : World) (h : TwoX w0 w qa va S last qx vx S last) (hS : (S : List Itm).length < 4000) (hl : last < 4000) (hk0 : 0 ≤ kd) (hk1 : kd ≤ 255) (hk : kd % 7 = 5) (ho0 : 0 ≤ od) (ho1 : od ≤ 255) :
    Calls Try.prog 14 #[.pointer (some ⟨qa, 0, none⟩), .pointer (some ⟨qx, 0, none⟩), .agg #[.int .u8 kd, .int .u64 ti, .int .u8 od, .int .i64 dt, .string s]] w (Did w0 qa qx S last) := by
  have hm3 : (kd % 7 == 3) = false := by simp; omega
  have hm4 : (kd % 7 == 4) = false := by simp; omega
  have hm5 : (kd % 7 == 5) = true := by simp; omega
  have hl0 := h.pos.1
  have HU := Lib.hid h.pos.2
  have HB : Hid (Off (w.alloc (.cells #[.int .u8 kd, .int .u64 ti, .int .u8 od, .int .i64 dt, .string s] 47)) w.heap.size #[.int .u8 kd, .int .u64 ti, .int .u8 od, .int .i64 dt, .string s] 47 qa va qx vx) := Off.new h (Blk.new _ _ _) (Nat.le_refl _)
  have HT : Hid (TwoX w0 (w.alloc (.cells #[.int .u8 kd, .int .u64 ti, .int .u8 od, .int .i64 dt, .string s] 47)) qa va S last qx vx S last) := h.fr0 ((Fr.refl _ _).alloc _)
  have hwu : IntKind.u64.wrap od = od := by simp [IntKind.wrap, IntKind.bits, IntKind.signed]; omega
  clear h hk
  go_enter Try.func14, Try.ntmps14
  go_wp2_with fail
  have HX := Lib.hid hx
  have HXo := Lib.hid hxo
  clear hx hxo
  refine (pDouble w0 qa va S last od ti x qx vx S last _ HT.out HX.out HXo.out (by omega) (by omega)).mono ?_
  rintro e w1 ⟨rfl, va1, HT1, K1⟩
  have y0 : w1.cell? ⟨w.heap.size, 0, none⟩ = some (.int .u8 kd) := (HB.out.stepA K1.out).1.cellAt (i := 0) rfl
  have y1 : w1.cell? ⟨w.heap.size, 1, none⟩ = some (.int .u64 ti) := (HB.out.stepA K1.out).1.cellAt (i := 1) rfl
  have y2 : w1.cell? ⟨w.heap.size, 2, none⟩ = some (.int .u8 od) := (HB.out.stepA K1.out).1.cellAt (i := 2) rfl
  have y3 : w1.cell? ⟨w.heap.size, 3, none⟩ = some (.int .i64 dt) := (HB.out.stepA K1.out).1.cellAt (i := 3) rfl
  have y4 : w1.cell? ⟨w.heap.size, 4, none⟩ = some (.string s) := (HB.out.stepA K1.out).1.cellAt (i := 4) rfl
  clear HB HT
  go_wp2_with fail
  refine (xDouble w0 qa va1 _ (last + 1) od ti x qx vx S last _ HT1.out HU.out HX.out HXo.out (by omega) hl0 (by omega)).mono ?_
  rintro e w2 ⟨rfl, vx2, HT2, K2⟩
  go_wp2_with fail
  go_ret
  exact ⟨rfl, _, _, _, last + 1, HT2.out, by rw [queueNext.ins_len]; omega, by omega⟩

set_option maxRecDepth 100000 in
set_option maxHeartbeats 8000000 in
theorem does_doubleNo (w0 : World) (qa qx : Nat) (va vx : Value) (S : List Itm) (last : Int) (kd ti od dt : Int) (s : ByteArray) (hno : ∀ x, x ∈ S → x.order ≠ od) (w : World) (h : TwoX w0 w qa va S last qx vx S last) (hS : (S : List Itm).length < 4000) (hl : last < 4000) (hk0 : 0 ≤ kd) (hk1 : kd ≤ 255) (hk : kd % 7 = 5) (ho0 : 0 ≤ od) (ho1 : od ≤ 255) :
    Calls Try.prog 14 #[.pointer (some ⟨qa, 0, none⟩), .pointer (some ⟨qx, 0, none⟩), .agg #[.int .u8 kd, .int .u64 ti, .int .u8 od, .int .i64 dt, .string s]] w (Did w0 qa qx S last) := by
  have hm3 : (kd % 7 == 3) = false := by simp; omega
  have hm4 : (kd % 7 == 4) = false := by simp; omega
  have hm5 : (kd % 7 == 5) = true := by simp; omega
  have hl0 := h.pos.1
  have HU := Lib.hid h.pos.2
  have HB : Hid (Off (w.alloc (.cells #[.int .u8 kd, .int .u64 ti, .int .u8 od, .int .i64 dt, .string s] 47)) w.heap.size #[.int .u8 kd, .int .u64 ti, .int .u8 od, .int .i64 dt, .string s] 47 qa va qx vx) := Off.new h (Blk.new _ _ _) (Nat.le_refl _)
  have HT : Hid (TwoX w0 (w.alloc (.cells #[.int .u8 kd, .int .u64 ti, .int .u8 od, .int .i64 dt, .string s] 47)) qa va S last qx vx S last) := h.fr0 ((Fr.refl _ _).alloc _)
  have hwu : IntKind.u64.wrap od = od := by simp [IntKind.wrap, IntKind.bits, IntKind.signed]; omega
  clear h hk
  go_enter Try.func14, Try.ntmps14
  go_wp2_with fail
  have HN := Lib.hid hno
  clear hno
  refine (qDoubleNo qa va S last od ti _ HT.out.a HN.out).mono ?_
  rintro e w1 ⟨rfl, f1⟩
  have HT1 := Lib.hid (HT.out.fr0 f1)
  have F1 := Lib.hid f1
  clear f1
  have y0 : w1.cell? ⟨w.heap.size, 0, none⟩ = some (.int .u8 kd) := (HB.out.fr0 F1.out).1.cellAt (i := 0) rfl
  have y1 : w1.cell? ⟨w.heap.size, 1, none⟩ = some (.int .u64 ti) := (HB.out.fr0 F1.out).1.cellAt (i := 1) rfl
  have y2 : w1.cell? ⟨w.heap.size, 2, none⟩ = some (.int .u8 od) := (HB.out.fr0 F1.out).1.cellAt (i := 2) rfl
  have y3 : w1.cell? ⟨w.heap.size, 3, none⟩ = some (.int .i64 dt) := (HB.out.fr0 F1.out).1.cellAt (i := 3) rfl
  have y4 : w1.cell? ⟨w.heap.size, 4, none⟩ = some (.string s) := (HB.out.fr0 F1.out).1.cellAt (i := 4) rfl
  clear HB HT
  go_wp2_with fail
  refine (rDoubleNo qx vx S last od ti _ HT1.out.b (by omega) (fun j hj => HN.out _ (at_mem hj))).mono ?_
  rintro e w2 ⟨rfl, rfl⟩
  go_wp2_with fail
  go_ret
  exact ⟨rfl, _, _, S, last, HT1.out, by omega, by omega⟩

set_option maxRecDepth 100000 in
set_option maxHeartbeats 8000000 in
theorem does_drop (w0 : World) (qa qx : Nat) (va vx : Value) (S : List Itm) (last : Int) (kd ti od dt : Int) (s : ByteArray) (w : World) (h : TwoX w0 w qa va S last qx vx S last) (hS : (S : List Itm).length < 4000) (hl : last < 4000) (hk0 : 0 ≤ kd) (hk1 : kd ≤ 255) (hk : kd % 7 = 4) (ho0 : 0 ≤ od) (ho1 : od ≤ 255) :
    Calls Try.prog 14 #[.pointer (some ⟨qa, 0, none⟩), .pointer (some ⟨qx, 0, none⟩), .agg #[.int .u8 kd, .int .u64 ti, .int .u8 od, .int .i64 dt, .string s]] w (Did w0 qa qx S last) := by
  have hm3 : (kd % 7 == 3) = false := by simp; omega
  have hm4 : (kd % 7 == 4) = true := by simp; omega
  have hl0 := h.pos.1
  have HU := Lib.hid h.pos.2
  have HB : Hid (Off (w.alloc (.cells #[.int .u8 kd, .int .u64 ti, .int .u8 od, .int .i64 dt, .string s] 47)) w.heap.size #[.int .u8 kd, .int .u64 ti, .int .u8 od, .int .i64 dt, .string s] 47 qa va qx vx) := Off.new h (Blk.new _ _ _) (Nat.le_refl _)
  have HT : Hid (TwoX w0 (w.alloc (.cells #[.int .u8 kd, .int .u64 ti, .int .u8 od, .int .i64 dt, .string s] 47)) qa va S last qx vx S last) := h.fr0 ((Fr.refl _ _).alloc _)
  have hwu : IntKind.u64.wrap od = od := by simp [IntKind.wrap, IntKind.bits, IntKind.signed]; omega
  clear h hk
  go_enter Try.func14, Try.ntmps14
  go_wp2_with fail
  generalize (w.alloc (.cells #[.int .u8 kd, .int .u64 ti, .int .u8 od, .int .i64 dt, .string s] 47)) = w1 at *
  generalize w.heap.size = b5 at *
  have y2 : w1.cell? ⟨b5, 2, none⟩ = some (.int .u8 od) := HB.out.1.cellAt (i := 2) rfl
  have HT' := Lib.hid (HT.out.fr0 (Fr.refl [] w1).drew)
  have HB' := Lib.hid (HB.out.fr0 (Fr.refl [] w1).drew)
  clear HT HB
  go_region_held3 (fun wx => wx.cell? ⟨b5, 2, none⟩ = some (.int .u8 od))
    (first | go_keep | exact HBa.out.1.cellAt (i := 2) rfl | exact HBx.out.1.cellAt (i := 2) rfl)
    (first
      | (go_at_call 17; first | (refine (wDropA w0 qa _ _ _ od qx _ _ _ _ HTx.out).mono ?_; rintro e w2 ⟨rfl, va2, HTa, Ka⟩; have HBa := Lib.hid (HBx.out.stepA Ka.out)) | (refine (wDropA w0 qa _ _ _ od qx _ _ _ _ HT'.out).mono ?_; rintro e w2 ⟨rfl, va2, HTa, Ka⟩; have HBa := Lib.hid (HB'.out.stepA Ka.out)))
      | (go_at_call 24; first | (refine (wDropX w0 qa _ _ _ od qx _ _ _ _ HTa.out (by omega) HU.out).mono ?_; rintro e w3 ⟨rfl, vx3, HTx, Kx⟩; have HBx := Lib.hid (HBa.out.stepX Kx.out)) | (refine (wDropX w0 qa _ _ _ od qx _ _ _ _ HT'.out (by omega) HU.out).mono ?_; rintro e w3 ⟨rfl, vx3, HTx, Kx⟩; have HBx := Lib.hid (HB'.out.stepX Kx.out))))
  all_goals go_wp2_with fail
  all_goals go_ret
  all_goals first
    | exact ⟨by simp, _, _, without S od, last, HTa.out, by have := List.length_filter_le (fun y : Itm => y.order != od) S; unfold without; omega, by omega⟩
    | exact ⟨by simp, _, _, without S od, last, HTx.out, by have := List.length_filter_le (fun y : Itm => y.order != od) S; unfold without; omega, by omega⟩
end Go.Proofs.Ytbafgheblindmaa.queuePlays

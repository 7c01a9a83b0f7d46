/-
  The cursor's 'appended'.
  The cursor's 'status'.
-/
import Derived.Test.YtjamgkcmpcnfpaaGreatDoorS19
import Derived.Test.YtjamgkcmpcnfpaaGreatDoorS23
set_option linter.unusedVariables false
set_option linter.unusedSimpArgs false

namespace Go.Proofs.YtjamgkcmpcnfpaaGreatDoor
open Go.RowKit

/-- A command without items, fetches and keys. -/
def PlainQ (tag : ByteArray) (op : Int) (uid : Bool) (cs : Array Value) (sv : Value) : Prop :=
  ∃ (box dest : ByteArray) (mode : Int) (q : Bool) (fl date num : Int) (body : ByteArray), cs = cmdT tag op uid box dest sv mode q fl date num body (.slice none 0 0) (.slice none 0 0) (.slice none 0 0)

/-- The end of 'appended': the literal. -/
abbrev appC (tag : ByteArray) (op : Int) (uid : Bool) (box : ByteArray) (fl date : Int) : Array Value := cmdT tag op uid box ⟨#[]⟩ (.slice none 0 0) 0 false fl date 0 ⟨#[]⟩ (.slice none 0 0) (.slice none 0 0) (.slice none 0 0)

set_option maxHeartbeats 16000000 in
set_option maxRecDepth 100000 in
theorem appended24 (g X : Nat) (S : Src) (i a : Nat) (bad : Bool) (kv : Value) (tag : ByteArray) (op : Int) (uid : Bool) (w : World) (h : Cur g S w i a bad kv) (hX : w.heap[X]? = some (.cells (cmd0 tag op uid) 31 (0, 0))) (hXS : X ≠ S.b) :
    Calls Tryz.prog 69 #[CC g, .pointer (some ⟨X, 0, none⟩)] w (FillP g X S kv (left S i a) bad w (PlainQ tag op uid)) := by
  have H0 := Lib.hid (TSt.start h hX)
  generalize left S i a = r at *
  clear h hX
  go_enter Tryz.func69, Tryz.ntmps69
  go_wp2_with fail
  refine (box24 g S i a bad kv w H0.out.cur).mono ?_
  rintro e w1 ⟨box, rfl, hM⟩
  obtain ⟨i1, a1, b1, h1, _, _⟩ := H0.out.moved hM
  have x3 := cell_hp h1.hX (j := 3) (v := .string ⟨#[]⟩) rfl
  have y3 : w1.frozen? ⟨X, 3, none⟩ = false := Lib.frozen_of_heap h1.hX 3
  have h2 := h1.setX hXS 3 (.string box) rfl (cs2 := appC tag op uid box 0 0)
  clear h1 hM H0
  go_wp2_with fail
  clear x3 y3
  generalize w1.setCell ⟨X, 3, none⟩ (.string box) = w2 at *
  have H2 := Lib.hid h2
  clear h2
  refine (eat_any g S i1 a1 b1 kv 32 w2 H2.out.cur).mono ?_
  rintro e w3 ⟨rfl, hM⟩
  obtain ⟨i3, a3, b3, h3, _, _⟩ := H2.out.eaten hM
  have x9 := cell_hp h3.hX (j := 9) (v := .int .i64 0) rfl
  have y9 : w3.frozen? ⟨X, 9, none⟩ = false := Lib.frozen_of_heap h3.hX 9
  have h4 := h3.setX hXS 9 (.int .i64 (-1)) rfl (cs2 := appC tag op uid box 0 (-1))
  clear h3 hM H2
  go_wp2_with fail
  clear x9 y9
  generalize w3.setCell ⟨X, 9, none⟩ (.int .i64 (-1)) = w4 at *
  have H4 := Lib.hid h4
  clear h4
  refine (if1_any g S i3 a3 b3 kv 40 w4 H4.out.cur).mono ?_
  rintro e w5 ⟨v5, rfl, hM, hno⟩
  clear hno
  obtain ⟨i5, a5, b5, h5, _, _⟩ := H4.out.moved hM
  have H5 := Lib.hid h5
  clear h5 hM H4
  cases v5
  · go_wp2_with fail
    refine (if1_any g S i5 a5 b5 kv 34 w5 H5.out.cur).mono ?_
    rintro e w6 ⟨v6, rfl, hM, hno⟩
    clear hno
    obtain ⟨i6, a6, b6, h6, _, _⟩ := H5.out.moved hM
    have H6 := Lib.hid h6
    clear h6 hM H5
    cases v6
    · go_wp2_with fail
      refine (literal24 g S i6 a6 b6 kv w6 H6.out.cur).mono ?_
      rintro e w20 ⟨body, rfl, hs20, hM⟩
      clear hs20
      obtain ⟨i20, a20, b20, h20, _, _⟩ := H6.out.moved hM
      have x11 := cell_hp h20.hX (j := 11) (v := .string ⟨#[]⟩) rfl
      have y11 : w20.frozen? ⟨X, 11, none⟩ = false := Lib.frozen_of_heap h20.hX 11
      have H20 := Lib.hid (h20.setX hXS 11 (.string body) rfl)
      clear h20 hM
      go_wp2_with fail
      first
      | (go_end0; exact ⟨rfl, _, _, _, _, _, _, H20.out, box, ⟨#[]⟩, 0, false, 0, (-1), 0, body, rfl⟩)
      | (refine bodyPost_ret (results_none rfl _ _ _) rfl ?_; exact ⟨rfl, _, _, _, _, _, _, H20.out, box, ⟨#[]⟩, 0, false, 0, (-1), 0, body, rfl⟩)
    · go_wp2_with fail
      refine (quoted24 g S i6 a6 b6 kv w6 H6.out.cur).mono ?_
      rintro e w7 ⟨s7, rfl, hs7, hM⟩
      obtain ⟨i7, a7, b7, h7, _, _⟩ := H6.out.moved hM
      have H7 := Lib.hid h7
      clear h7 hM H6
      go_wp2_with fail
      refine (Parse07 s7 w7 hs7).mono ?_
      rintro e w8 ⟨t8, n8, rfl, hB⟩
      have H8 := Lib.hid (H7.out.below hB)
      clear hB hs7 H7
      go_wp2_with fail
      refine (fail_any g S i7 a7 b7 _ kv _ H8.out.cur).mono ?_
      rintro e w9 ⟨rfl, hC, hK⟩
      obtain ⟨b9, h9⟩ := H8.out.failed hC hK
      have x9 := cell_hp h9.hX (j := 9) (v := .int .i64 (-1)) rfl
      have y9 : w9.frozen? ⟨X, 9, none⟩ = false := Lib.frozen_of_heap h9.hX 9
      have h10 := h9.setX hXS 9 (.int .i64 t8) rfl (cs2 := appC tag op uid box 0 t8)
      clear h9 hC hK H8
      go_wp2_with fail
      clear x9 y9
      generalize w9.setCell ⟨X, 9, none⟩ (.int .i64 t8) = w10 at *
      have H10 := Lib.hid h10
      clear h10
      refine (eat_any g S i7 a7 b9 kv 32 w10 H10.out.cur).mono ?_
      rintro e w11 ⟨rfl, hM⟩
      obtain ⟨i11, a11, b11, h11, _, _⟩ := H10.out.eaten hM
      have H11 := Lib.hid h11
      clear h11 hM H10
      go_wp2_with fail
      refine (literal24 g S i11 a11 b11 kv w11 H11.out.cur).mono ?_
      rintro e w20 ⟨body, rfl, hs20, hM⟩
      clear hs20
      obtain ⟨i20, a20, b20, h20, _, _⟩ := H11.out.moved hM
      have x11 := cell_hp h20.hX (j := 11) (v := .string ⟨#[]⟩) rfl
      have y11 : w20.frozen? ⟨X, 11, none⟩ = false := Lib.frozen_of_heap h20.hX 11
      have H20 := Lib.hid (h20.setX hXS 11 (.string body) rfl)
      clear h20 hM
      go_wp2_with fail
      first
      | (go_end0; exact ⟨rfl, _, _, _, _, _, _, H20.out, box, ⟨#[]⟩, 0, false, 0, t8, 0, body, rfl⟩)
      | (refine bodyPost_ret (results_none rfl _ _ _) rfl ?_; exact ⟨rfl, _, _, _, _, _, _, H20.out, box, ⟨#[]⟩, 0, false, 0, t8, 0, body, rfl⟩)
  · go_wp2_with fail
    refine (flags24 g S i5 a5 b5 kv w5 H5.out.cur).mono ?_
    rintro e w51 ⟨fl, rfl, hM⟩
    obtain ⟨i51, a51, b51, h51, _, _⟩ := H5.out.moved hM
    have x8 := cell_hp h51.hX (j := 8) (v := .int .i64 0) rfl
    have y8 : w51.frozen? ⟨X, 8, none⟩ = false := Lib.frozen_of_heap h51.hX 8
    have h52 := h51.setX hXS 8 (.int .i64 fl) rfl (cs2 := appC tag op uid box fl (-1))
    clear h51 hM H5
    go_wp2_with fail
    clear x8 y8
    generalize w51.setCell ⟨X, 8, none⟩ (.int .i64 fl) = w52 at *
    have H52 := Lib.hid h52
    clear h52
    refine (eat_any g S i51 a51 b51 kv 32 w52 H52.out.cur).mono ?_
    rintro e w53 ⟨rfl, hM⟩
    obtain ⟨i53, a53, b53, h53, _, _⟩ := H52.out.eaten hM
    have H53 := Lib.hid h53
    clear h53 hM H52
    go_wp2_with fail
    refine (if1_any g S i53 a53 b53 kv 34 w53 H53.out.cur).mono ?_
    rintro e w6 ⟨v6, rfl, hM, hno⟩
    clear hno
    obtain ⟨i6, a6, b6, h6, _, _⟩ := H53.out.moved hM
    have H6 := Lib.hid h6
    clear h6 hM H53
    cases v6
    · go_wp2_with fail
      refine (literal24 g S i6 a6 b6 kv w6 H6.out.cur).mono ?_
      rintro e w20 ⟨body, rfl, hs20, hM⟩
      clear hs20
      obtain ⟨i20, a20, b20, h20, _, _⟩ := H6.out.moved hM
      have x11 := cell_hp h20.hX (j := 11) (v := .string ⟨#[]⟩) rfl
      have y11 : w20.frozen? ⟨X, 11, none⟩ = false := Lib.frozen_of_heap h20.hX 11
      have H20 := Lib.hid (h20.setX hXS 11 (.string body) rfl)
      clear h20 hM
      go_wp2_with fail
      first
      | (go_end0; exact ⟨rfl, _, _, _, _, _, _, H20.out, box, ⟨#[]⟩, 0, false, fl, (-1), 0, body, rfl⟩)
      | (refine bodyPost_ret (results_none rfl _ _ _) rfl ?_; exact ⟨rfl, _, _, _, _, _, _, H20.out, box, ⟨#[]⟩, 0, false, fl, (-1), 0, body, rfl⟩)
    · go_wp2_with fail
      refine (quoted24 g S i6 a6 b6 kv w6 H6.out.cur).mono ?_
      rintro e w7 ⟨s7, rfl, hs7, hM⟩
      obtain ⟨i7, a7, b7, h7, _, _⟩ := H6.out.moved hM
      have H7 := Lib.hid h7
      clear h7 hM H6
      go_wp2_with fail
      refine (Parse07 s7 w7 hs7).mono ?_
      rintro e w8 ⟨t8, n8, rfl, hB⟩
      have H8 := Lib.hid (H7.out.below hB)
      clear hB hs7 H7
      go_wp2_with fail
      refine (fail_any g S i7 a7 b7 _ kv _ H8.out.cur).mono ?_
      rintro e w9 ⟨rfl, hC, hK⟩
      obtain ⟨b9, h9⟩ := H8.out.failed hC hK
      have x9 := cell_hp h9.hX (j := 9) (v := .int .i64 (-1)) rfl
      have y9 : w9.frozen? ⟨X, 9, none⟩ = false := Lib.frozen_of_heap h9.hX 9
      have h10 := h9.setX hXS 9 (.int .i64 t8) rfl (cs2 := appC tag op uid box fl t8)
      clear h9 hC hK H8
      go_wp2_with fail
      clear x9 y9
      generalize w9.setCell ⟨X, 9, none⟩ (.int .i64 t8) = w10 at *
      have H10 := Lib.hid h10
      clear h10
      refine (eat_any g S i7 a7 b9 kv 32 w10 H10.out.cur).mono ?_
      rintro e w11 ⟨rfl, hM⟩
      obtain ⟨i11, a11, b11, h11, _, _⟩ := H10.out.eaten hM
      have H11 := Lib.hid h11
      clear h11 hM H10
      go_wp2_with fail
      refine (literal24 g S i11 a11 b11 kv w11 H11.out.cur).mono ?_
      rintro e w20 ⟨body, rfl, hs20, hM⟩
      clear hs20
      obtain ⟨i20, a20, b20, h20, _, _⟩ := H11.out.moved hM
      have x11 := cell_hp h20.hX (j := 11) (v := .string ⟨#[]⟩) rfl
      have y11 : w20.frozen? ⟨X, 11, none⟩ = false := Lib.frozen_of_heap h20.hX 11
      have H20 := Lib.hid (h20.setX hXS 11 (.string body) rfl)
      clear h20 hM
      go_wp2_with fail
      first
      | (go_end0; exact ⟨rfl, _, _, _, _, _, _, H20.out, box, ⟨#[]⟩, 0, false, fl, t8, 0, body, rfl⟩)
      | (refine bodyPost_ret (results_none rfl _ _ _) rfl ?_; exact ⟨rfl, _, _, _, _, _, _, H20.out, box, ⟨#[]⟩, 0, false, fl, t8, 0, body, rfl⟩)

end Go.Proofs.YtjamgkcmpcnfpaaGreatDoor

namespace Go.Proofs.YtjamgkcmpcnfpaaGreatDoor
open Go.RowKit

/-- The names of what may be asked. -/
abbrev statL : Array Value := #[.string ⟨#[109, 101, 115, 115, 97, 103, 101, 115]⟩, .string ⟨#[114, 101, 99, 101, 110, 116]⟩, .string ⟨#[117, 105, 100, 110, 101, 120, 116]⟩, .string ⟨#[117, 105, 100, 118, 97, 108, 105, 100, 105, 116, 121]⟩, .string ⟨#[117, 110, 115, 101, 101, 110]⟩]

/-- What 'status' fills. -/
abbrev statC (tag : ByteArray) (op : Int) (uid : Bool) (box : ByteArray) (iv : Value) : Array Value := cmdT tag op uid box ⟨#[]⟩ (.slice none 0 0) 0 false 0 0 0 ⟨#[]⟩ iv (.slice none 0 0) (.slice none 0 0)

/-- Where 'status' stands, with the items so far and the names' block. -/
structure LSt (g X LB : Nat) (S : Src) (kv : Value) (r : Nat) (bad : Bool) (w : World) (cs : Array Value) (iv : Value) (k i a : Nat) (b : Bool) (W : World) : Prop where
  t : TSt g X S kv r bad w cs (.slice none 0 0) 0 i a b W
  row : Rowed w.heap.size 3 1 OneInt iv k W
  hL : W.heap[LB]? = some (.cells statL 9 (0, 0))

section
variable {g X LB : Nat} {S : Src} {kv iv : Value} {cs cs2 : Array Value} {r i a i2 a2 k : Nat} {bad b b2 : Bool} {w W W2 : World}

theorem LSt.kept (h : LSt g X LB S kv r bad w cs iv k i a b W) (hC : Cur g S W2 i2 a2 b2 kv) (hK : Kept g W W2) (hl : left S i2 a2 ≤ left S i a) (hb : b = true → b2 = true) : LSt g X LB S kv r bad w cs iv k i2 a2 b2 W2 :=
  ⟨h.t.kept hC hK hl hb, h.row.typed (hK.typed h.t.cur.hp (by decide)), (hK.typed h.t.cur.hp (show (69 : TypeId) ≠ 9 by decide) _ _ _ h.hL).trans h.hL⟩

theorem LSt.moved (h : LSt g X LB S kv r bad w cs iv k i a b W) (hM : Moves g S kv (left S i a) b W W2) : ∃ i2 a2 b2, LSt g X LB S kv r bad w cs iv k i2 a2 b2 W2 ∧ (b = true → b2 = true) ∧ left S i2 a2 ≤ left S i a := by
  obtain ⟨i2, a2, b2, hC, hK, hl, hb⟩ := hM
  exact ⟨i2, a2, b2, h.kept hC hK hl hb, hb, hl⟩

theorem LSt.eaten (h : LSt g X LB S kv r bad w cs iv k i a b W) (hM : Eats g S kv (left S i a) b W W2) : ∃ i2 a2 b2, LSt g X LB S kv r bad w cs iv k i2 a2 b2 W2 ∧ (b = true → b2 = true) ∧ (b2 = true ∨ left S i2 a2 < left S i a) := by
  obtain ⟨i2, a2, b2, hC, hK, hl, hlt, hb⟩ := hM
  exact ⟨i2, a2, b2, h.kept hC hK hl hb, hb, hlt⟩

theorem LSt.drew (h : LSt g X LB S kv r bad w cs iv k i a b W) : LSt g X LB S kv r bad w cs iv k i a b W.drew :=
  h.kept h.t.cur.drew (Kept.refl g W).drew (Nat.le_refl _) id

theorem LSt.alloc (h : LSt g X LB S kv r bad w cs iv k i a b W) (o : Obj) : LSt g X LB S kv r bad w cs iv k i a b (W.alloc o) :=
  h.kept (h.t.cur.alloc _) ((Kept.refl g W).alloc _) (Nat.le_refl _) id

theorem LSt.failed {f : Bool} (h : LSt g X LB S kv r bad w cs iv k i a b W) (hC : Cur g S W2 i a (b || f) kv) (hK : Kept g W W2) : ∃ b2, LSt g X LB S kv r bad w cs iv k i a b2 W2 ∧ (b = true → b2 = true) :=
  ⟨_, h.kept hC hK (Nat.le_refl _) (fun hb => by rw [hb]; rfl), fun hb => by rw [hb]; rfl⟩

/-- The items, grown, are stored. -/
theorem LSt.grown {iv2 : Value} (h : LSt g X LB S kv r bad w cs iv k i a b W) (hgw : g < w.heap.size) (hXw : X < w.heap.size) (hSw : S.b < w.heap.size) (hR : Rowed w.heap.size 3 1 OneInt iv2 (k + 1) W2) (hgr : W.grownBy W2 iv.ownBlock) :
    Cur g S W2 i a b kv ∧ W2.heap[X]? = some (.cells cs 31 (0, 0)) ∧ Kept2 g X w W2 ∧ W2.heap[LB]? = some (.cells statL 9 (0, 0)) := by
  have hlo : ∀ j, j < w.heap.size → W2.heap[j]? = W.heap[j]? := fun j hj => hgr.block j (Nat.lt_of_lt_of_le hj h.t.kk.size) fun e => by
    have := (h.row.lt j e.symm).1
    omega
  refine ⟨h.t.cur.of_blocks (hlo g hgw) (hlo S.b hSw), (hlo X hXw).trans h.t.hX, ⟨hgr.os.trans h.t.kk.os, hgr.tape.trans h.t.kk.tape, hgr.output.trans h.t.kk.output, Nat.le_trans h.t.kk.size hgr.size, fun j hj h1 h2 => (hlo j hj).trans (h.t.kk.block j hj h1 h2)⟩, ?_⟩
  have ht : Typed 9 W W2 := Typed.grown hgr fun j hj => by
    obtain ⟨cs', fr', hh⟩ := h.row.type_ hj
    exact ⟨cs', fr', 3, hh, by decide⟩
  exact (ht _ _ _ h.hL).trans h.hL

theorem LSt.of_items {iv2 : Value} {k2 : Nat} (hC : Cur g S W i a b kv) (hX : W.heap[X]? = some (.cells cs 31 (0, 0))) (hK : Kept2 g X w W) (hL : W.heap[LB]? = some (.cells statL 9 (0, 0))) (hl : left S i a ≤ r) (hb : bad = true → b = true) (hXS : X ≠ S.b)
    (hR : Rowed w.heap.size 3 1 OneInt iv2 k2 W) (hs : cs.setIfInBounds 12 iv2 = cs2) : LSt g X LB S kv r bad w cs2 iv2 k2 i a b (W.setCell ⟨X, 12, none⟩ iv2) :=
  ⟨⟨hC.other (p := ⟨X, 12, none⟩) (hC.xg hX (by decide)) hXS _, by rw [heap_set hX, hs], Rowed.nil _, by omega, hK.setx 12 _, hl, hb⟩, hR.typed (Typed.set hX (by decide)), (Typed.set hX (show (31 : TypeId) ≠ 9 by decide) _ _ _ hL).trans hL⟩
end

theorem left_max {S : Src} {i a : Nat} (h : S.n ≤ 9) : left S i a ≤ 18009 := by
  unfold left
  have := Nat.mul_le_mul_right 2001 (show S.n - i ≤ 9 by omega)
  omega

/-- What 'status' leaves. -/
def StatP (g X : Nat) (S : Src) (kv : Value) (r : Nat) (bad : Bool) (w : World) (tag : ByteArray) (op : Int) (uid : Bool) (e : Ending) (W : World) : Prop :=
  e = .returned (.tuple #[]) ∧ ∃ (box : ByteArray) (iv : Value) (k i a : Nat) (b : Bool), TSt g X S kv r bad w (statC tag op uid box iv) (.slice none 0 0) 0 i a b W ∧ Rowed w.heap.size 3 1 OneInt iv k W ∧ k ≤ 20000

/-- What holds ahead of a round. -/
def StatR (g X LB : Nat) (S : Src) (kv : Value) (r : Nat) (bad : Bool) (w : World) (tag : ByteArray) (op : Int) (uid : Bool) (box : ByteArray) (W : World) : Prop :=
  ∃ (iv : Value) (k i a : Nat) (b : Bool), LSt g X LB S kv r bad w (statC tag op uid box iv) iv k i a b W ∧ k ≤ 18011 ∧ (b = false → k + left S i a ≤ 18010)

/-- What holds ahead of a look at the items. -/
def StatI (g X LB : Nat) (S : Src) (kv : Value) (r : Nat) (bad : Bool) (w : World) (cs : Array Value) (iv : Value) (k i a : Nat) (b : Bool) (x : Value) (W : World) : Prop :=
  ∃ (j : Nat) (b2 : Bool), x = .int .i64 j ∧ j ≤ k ∧ LSt g X LB S kv r bad w cs iv k i a b2 W ∧ (b = true → b2 = true)

theorem statL_at (k : Nat) (hk : k < 5) : ∃ s : ByteArray, statL[k]? = some (.string s) := by
  have : k = 0 ∨ k = 1 ∨ k = 2 ∨ k = 3 ∨ k = 4 := by omega
  rcases this with rfl | rfl | rfl | rfl | rfl <;> exact ⟨_, rfl⟩

set_option maxHeartbeats 16000000 in
set_option maxRecDepth 100000 in
theorem status24 (g X : Nat) (S : Src) (i a : Nat) (bad : Bool) (kv : Value) (tag : ByteArray) (op : Int) (uid : Bool) (w : World) (h : Cur g S w i a bad kv) (hX : w.heap[X]? = some (.cells (cmd0 tag op uid) 31 (0, 0))) (hXS : X ≠ S.b) :
    Calls Tryz.prog 68 #[CC g, .pointer (some ⟨X, 0, none⟩)] w (StatP g X S kv (left S i a) bad w tag op uid) := by
  obtain ⟨i0, hi, hz0, hz1, hz2⟩ := info_parts info3
  have hgw : g < w.heap.size := h.lt
  have hSw : S.b < w.heap.size := h.slt
  have hXw : X < w.heap.size := (Array.getElem?_eq_some_iff.1 hX).1
  have hn9 := h.hn
  have H0 := Lib.hid (TSt.start h hX)
  generalize left S i a = r at *
  clear h hX
  go_enter Tryz.func68, Tryz.ntmps68
  go_wp2_with fail
  refine (box24 g S i a bad kv w H0.out.cur).mono ?_
  rintro e w1 ⟨box, rfl, hM⟩
  obtain ⟨i1, a1, b1, h1, _, _⟩ := H0.out.moved hM
  have x3 := cell_hp h1.hX (j := 3) (v := .string ⟨#[]⟩) rfl
  have y3 : w1.frozen? ⟨X, 3, none⟩ = false := Lib.frozen_of_heap h1.hX 3
  have h2 := h1.setX hXS 3 (.string box) rfl (cs2 := statC tag op uid box (.slice none 0 0))
  clear h1 hM H0
  go_wp2_with fail
  clear x3 y3
  generalize w1.setCell ⟨X, 3, none⟩ (.string box) = w2 at *
  have H2 := Lib.hid h2
  clear h2
  refine (eat_any g S i1 a1 b1 kv 32 w2 H2.out.cur).mono ?_
  rintro e w3 ⟨rfl, hM⟩
  obtain ⟨i3, a3, b3, h3, _, _⟩ := H2.out.eaten hM
  have H3 := Lib.hid h3
  clear h3 hM H2
  go_wp2_with fail
  refine (eat_any g S i3 a3 b3 kv 40 w3 H3.out.cur).mono ?_
  rintro e w4 ⟨rfl, hM⟩
  obtain ⟨i4, a4, b4, h4, _, _⟩ := H3.out.eaten hM
  have hL4 : LSt g X w4.heap.size S kv r bad w (statC tag op uid box (.slice none 0 0)) (.slice none 0 0) 0 i4 a4 b4 (w4.alloc (.cells statL 9)) :=
    ⟨h4.kept (h4.cur.alloc _) ((Kept.refl g w4).alloc _) (Nat.le_refl _) id, Rowed.nil _, (MapKept.heap_alloc w4 _).1⟩
  have H4 := Lib.hid hL4
  clear h4 hM H3 hL4
  go_wp2_with fail
  go_loopw [] (fun wr => StatR g X w4.heap.size S kv r bad w tag op uid box wr) (fun wr => togo g S wr)
  case atStart => exact ⟨_, 0, i4, a4, b4, H4.out, by omega, fun _ => by have := left_max (S := S) (i := i4) (a := a4) hn9; omega⟩
  case round =>
    clear H4
    generalize w4.heap.size = LB at *
    obtain ⟨iv, k, i5, a5, b5, h5, hk1, hk2⟩ := hrel
    have c3 := h5.t.cur.c3
    obtain ⟨iA, iC, rfl⟩ : ∃ A C, iv = .slice A k C := by
      rcases h5.row.slice with ⟨rfl, rfl⟩ | ⟨b, c, rfl⟩
      · exact ⟨_, _, rfl⟩
      · exact ⟨_, _, rfl⟩
    have H5 := Lib.hid h5
    have Hk2 := Lib.hid hk2
    clear h5 hk2
    cases b5
    · have hk3 := Hk2.out rfl
      clear Hk2
      go_wp2_with fail
      refine (name24 g S i5 a5 false kv ⟨#[]⟩ wr H5.out.t.cur (by decide)).mono ?_
      rintro e w6 ⟨s, rfl, hs, hM, hno⟩
      clear hno hs c3
      obtain ⟨i6, a6, b6, h6, hb6, hl6⟩ := H5.out.moved hM
      have hL6 : ∀ q, q < 5 → ∃ t : ByteArray, w6.cell? ⟨LB, q, none⟩ = some (.string t) := fun q hq => by
        obtain ⟨t, ht⟩ := statL_at q hq
        exact ⟨t, cell_hp h6.hL ht⟩
      have HL6 := Lib.hid hL6
      have H6 := Lib.hid h6
      have Hb6 := Lib.hid hb6
      clear h6 hM hL6 hb6
      go_wp2_with fail
      go_loop [6, 7] (fun n q => ∃ (j : Nat) (m : Int), j ≤ 5 ∧ q = .int .i64 j ∧ n = .int .i64 m) (fun _ q => 5 - (intOf q).toNat)
      case atStart => exact ⟨0, 0, by omega, rfl, rfl⟩
      case round =>
        obtain ⟨j, m, hj, rfl, rfl⟩ := hrel
        by_cases hlt : j < 5
        · obtain ⟨t, ht⟩ := HL6.out j hlt
          by_cases e : (t.toList == s.toList) = true
          · go_wp2_with fail
            go_round
            case rel => exact ⟨j + 1, _, by omega, by go_num, rfl⟩
            case measure => simp [intOf]; omega
          · rw [Bool.not_eq_true] at e
            go_wp2_with fail
            go_round
            case rel => exact ⟨j + 1, _, by omega, by go_num, rfl⟩
            case measure => simp [intOf]; omega
        · go_wp2_with fail
          go_loopw [8] (fun x wr => StatI g X LB S kv r bad w (statC tag op uid box (.slice iA k iC)) (.slice iA k iC) k i6 a6 b6 x wr) (fun x _ => k - (intOf x).toNat)
          case atStart => exact ⟨0, b6, rfl, by omega, H6.out, id⟩
          case round =>
            obtain ⟨q, b7, rfl, hq, h7, hb7⟩ := hrel
            have x12 := cell_hp h7.t.hX (j := 12) (v := .slice iA k iC) rfl
            have y12 : wr.frozen? ⟨X, 12, none⟩ = false := Lib.frozen_of_heap h7.t.hX 12
            have H7 := Lib.hid h7
            have Hb7 := Lib.hid hb7
            clear hb7
            by_cases hqk : q < k
            · obtain ⟨gB, cap, hv, _, _, _, hcell⟩ := h7.row.at_ (by omega)
              simp only [Value.slice.injEq] at hv
              obtain ⟨rfl, _, rfl⟩ := hv
              obtain ⟨x, ⟨m2, rfl⟩, _, hc⟩ := hcell q hqk
              have hc1 := hc 0 _ rfl
              rw [Nat.mul_one, Nat.add_zero] at hc1
              clear hc hcell h7 y12
              go_wp2_with fail
              refine (fail_any g S i6 a6 b7 _ kv _ H7.out.t.cur).mono ?_
              rintro e w8 ⟨rfl, hC, hK⟩
              obtain ⟨b8, h8, hb8⟩ := H7.out.failed hC hK
              have H8 := Lib.hid h8
              have Hb8 := Lib.hid hb8
              clear h8 hb8 hC hK x12 hc1
              go_wp2_with fail
              go_roundw
              case rel => exact ⟨q + 1, b8, by go_num, by omega, H8.out, fun h => Hb8.out (Hb7.out h)⟩
              case measure => simp [intOf]; omega
            · clear h7
              go_wp2_with fail
              refine (fail_any g S i6 a6 b7 _ kv _ H7.out.t.cur).mono ?_
              rintro e w9 ⟨rfl, hC, hK⟩
              obtain ⟨b9, h9, hb9⟩ := H7.out.failed hC hK
              have H9 := Lib.hid h9
              have Hb9 := Lib.hid hb9
              have h9a := h9.alloc (.cells #[.int .i64 m] 3)
              have H9d := Lib.hid h9a
              have x9 := cell_hp h9.t.hX (j := 12) (v := .slice iA k iC) rfl
              have x9a := cell_hp h9a.t.hX (j := 12) (v := .slice iA k iC) rfl
              have hbase : w.heap.size ≤ (w9.alloc (.cells #[.int .i64 m] 3)).heap.size := h9a.t.kk.size
              clear h9 h9a hb9 hC hK x12 y12
              go_wp2_with (at_builtin; refine wpList_append_row rfl _ _ 27 rfl w.heap.size 3 i0 (.int .i64 0) 1 8 Tryz.underlying27 hi hz0 hz1 hz2 rfl (by decide) _ k OneInt rfl H9d.out.row w9.heap.size [.int .i64 m] 3 (0, 0) rfl (MapKept.heap_alloc w9 _).1 rfl ⟨_, rfl⟩ ?c1 ?c2 (by decide) ?c3 ?_)
              case c1 => simp [Value.oneCell']
              case c2 => omega
              case c3 => exact hbase
              intro v10 w10 hR10 hgr
              obtain ⟨gA, gC, rfl⟩ : ∃ A C, v10 = .slice A (k + 1) C := by
                rcases hR10.slice with ⟨rfl, h0⟩ | ⟨b, c, rfl⟩
                · exact absurd h0 (by omega)
                · exact ⟨_, _, rfl⟩
              have hG := H9d.out.grown hgw hXw hSw hR10 hgr
              have x10 := cell_hp hG.2.1 (j := 12) (v := .slice iA k iC) rfl
              have y10 : w10.frozen? ⟨X, 12, none⟩ = false := Lib.frozen_of_heap hG.2.1 12
              have HG := Lib.hid hG
              have HR10 := Lib.hid hR10
              clear hG hR10 hgr
              have h11 := LSt.of_items (cs2 := statC tag op uid box (.slice gA (k + 1) gC)) HG.out.1 HG.out.2.1 HG.out.2.2.1 HG.out.2.2.2 H9.out.t.le H9.out.t.bad hXS HR10.out rfl
              go_wp2_with fail
              clear x9 x9a x10 y10
              generalize w10.setCell ⟨X, 12, none⟩ (.slice gA (k + 1) gC) = w11 at *
              have H11 := Lib.hid h11
              clear h11
              refine (if1_any g S i6 a6 b9 kv 41 w11 H11.out.t.cur).mono ?_
              rintro e w12 ⟨v12, rfl, hM, hno⟩
              clear hno
              obtain ⟨i12, a12, b12, h12, hb12, hl12⟩ := H11.out.moved hM
              have H12 := Lib.hid h12
              clear h12 hM hb12
              cases v12
              · go_wp2_with fail
                refine (eat_any g S i12 a12 b12 kv 32 w12 H12.out.t.cur).mono ?_
                rintro e w13 ⟨rfl, hM⟩
                obtain ⟨i13, a13, b13, h13, hb13, hl13⟩ := H12.out.eaten hM
                have H13 := Lib.hid h13
                clear h13 hM hb13
                go_wp2_with fail
                go_roundw
                case rel => exact ⟨_, k + 1, _, _, _, H13.out, by omega, fun hb => by have := hl13.resolve_left (by simp [hb]); omega⟩
                case measure => exact togo_lt H5.out.t.cur H13.out.t.cur (hl13.imp id (by omega))
              · go_wp2_with fail
                first
                | (go_end0; exact ⟨rfl, _, _, _, _, _, _, H12.out.t, H12.out.row, by omega⟩)
                | (refine bodyPost_ret (results_none rfl _ _ _) rfl ?_; exact ⟨rfl, _, _, _, _, _, _, H12.out.t, H12.out.row, by omega⟩)
    · go_wp2_with fail
      first
      | (go_end0; exact ⟨rfl, _, _, _, _, _, _, H5.out.t, H5.out.row, by omega⟩)
      | (refine bodyPost_ret (results_none rfl _ _ _) rfl ?_; exact ⟨rfl, _, _, _, _, _, _, H5.out.t, H5.out.row, by omega⟩)

end Go.Proofs.YtjamgkcmpcnfpaaGreatDoor

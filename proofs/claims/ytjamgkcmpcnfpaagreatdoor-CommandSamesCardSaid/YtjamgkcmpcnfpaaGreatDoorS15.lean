/-
  The cursor's 'what': what of a section is meant, and the fields' names.
  The cursor's 'section'.
-/
import Derived.Test.YtjamgkcmpcnfpaaGreatDoorS13
import Derived.Test.YtjamgkcmpcnfpaaGreatDoorS14
import Derived.Test.YtjamgkcmpcnfpaaGreatDoorS05
set_option linter.unusedVariables false
set_option linter.unusedSimpArgs false

namespace Go.Proofs.YtjamgkcmpcnfpaaGreatDoor
open Go.RowKit

/-- A section's cells, in order. -/
abbrev secC (pv : Value) (what : Int) (nv : Value) (cut : Bool) (fr m : Int) : Array Value := #[pv, .int .i64 what, nv, .bool cut, .int .i64 fr, .int .i64 m]

/-- Where 'what' stands, on the way from w. -/
structure WSt (g X : Nat) (S : Src) (kv pv : Value) (cut : Bool) (fr m : Int) (r : Nat) (bad : Bool) (w : World) (what : Int) (i a : Nat) (b : Bool) (nv : Value) (k : Nat) (W : World) : Prop where
  cur : Cur g S W i a b kv
  hX : W.heap[X]? = some (.cells (secC pv what nv cut fr m) 57 (0, 0))
  row : Rowed w.heap.size 9 1 (OneStr 2000) nv k W
  k21 : k ≤ 21
  kk : Kept2 g X w W
  le : left S i a ≤ r
  bad : bad = true → b = true

section
variable {g X : Nat} {S : Src} {kv pv nv : Value} {cut : Bool} {fr m what : Int} {r i a i2 a2 k : Nat} {bad b b2 : Bool} {w W W2 : World}

theorem WSt.xlt (h : WSt g X S kv pv cut fr m r bad w what i a b nv k W) : X < W.heap.size := (Array.getElem?_eq_some_iff.1 h.hX).1

theorem Cur.xg {cs : Array Value} {t : TypeId} {frz : Nat × Nat} (h : Cur g S W i a b kv) (hX : W.heap[X]? = some (.cells cs t frz)) (ht : t ≠ 69) : X ≠ g := fun e => by
  subst e
  rw [h.hp] at hX
  injection hX with hX
  injection hX with _ hX
  exact ht hX.symm

theorem WSt.kept (h : WSt g X S kv pv cut fr m r bad w what i a b nv k W) (hC : Cur g S W2 i2 a2 b2 kv) (hK : Kept g W W2) (hl : left S i2 a2 ≤ left S i a) (hb : b = true → b2 = true) : WSt g X S kv pv cut fr m r bad w what i2 a2 b2 nv k W2 :=
  ⟨hC, (hK.block X h.xlt (h.cur.xg h.hX (by decide))).trans h.hX, h.row.typed (hK.typed h.cur.hp (by decide)), h.k21, h.kk.trans (hK.two X), Nat.le_trans hl h.le, fun x => hb (h.bad x)⟩

theorem WSt.moved (h : WSt g X S kv pv cut fr m r bad w what i a b nv k W) (hM : Moves g S kv (left S i a) b W W2) : ∃ i2 a2 b2, WSt g X S kv pv cut fr m r bad w what i2 a2 b2 nv k W2 ∧ (b = true → b2 = true) ∧ left S i2 a2 ≤ left S i a := by
  obtain ⟨i2, a2, b2, hC, hK, hl, hb⟩ := hM
  exact ⟨i2, a2, b2, h.kept hC hK hl hb, hb, hl⟩

theorem WSt.eaten (h : WSt g X S kv pv cut fr m r bad w what i a b nv k W) (hM : Eats g S kv (left S i a) b W W2) : ∃ i2 a2 b2, WSt g X S kv pv cut fr m r bad w what i2 a2 b2 nv k W2 ∧ (b = true → b2 = true) ∧ (b2 = true ∨ left S i2 a2 < left S i a) := by
  obtain ⟨i2, a2, b2, hC, hK, hl, hlt, hb⟩ := hM
  exact ⟨i2, a2, b2, h.kept hC hK hl hb, hb, hlt⟩

theorem WSt.drewN (h : WSt g X S kv pv cut fr m r bad w what i a b nv k W) (n : Nat) : WSt g X S kv pv cut fr m r bad w what i a b nv k (W.drewN n) :=
  h.kept (h.cur.drewN n) ((Kept.refl g W).drewN n) (Nat.le_refl _) id

/-- The kind is stored. -/
theorem WSt.set1 (h : WSt g X S kv pv cut fr m r bad w what i a b nv k W) (hXS : X ≠ S.b) (u : Int) : WSt g X S kv pv cut fr m r bad w u i a b nv k (W.setCell ⟨X, 1, none⟩ (.int .i64 u)) :=
  ⟨h.cur.other (p := ⟨X, 1, none⟩) (h.cur.xg h.hX (by decide)) hXS _, by rw [heap_set h.hX]; rfl, h.row.typed (Typed.set h.hX (by decide)), h.k21, h.kk.setx 1 _, h.le, h.bad⟩

/-- The names are stored. -/
theorem WSt.set2 (h : WSt g X S kv pv cut fr m r bad w what i a b nv k W) (hXS : X ≠ S.b) {nv2 : Value} {k2 : Nat} (hR : Rowed w.heap.size 9 1 (OneStr 2000) nv2 k2 W) (hk : k2 ≤ 21) : WSt g X S kv pv cut fr m r bad w what i a b nv2 k2 (W.setCell ⟨X, 2, none⟩ nv2) :=
  ⟨h.cur.other (p := ⟨X, 2, none⟩) (h.cur.xg h.hX (by decide)) hXS _, by rw [heap_set h.hX]; rfl, hR.typed (Typed.set h.hX (by decide)), hk, h.kk.setx 2 _, h.le, h.bad⟩

/-- The names, grown, are stored. -/
theorem WSt.of_names {nv2 : Value} {k2 : Nat} (hC : Cur g S W i a b kv) (hX : W.heap[X]? = some (.cells (secC pv what nv cut fr m) 57 (0, 0))) (hK : Kept2 g X w W) (hl : left S i a ≤ r) (hb : bad = true → b = true) (hXS : X ≠ S.b)
    (hR : Rowed w.heap.size 9 1 (OneStr 2000) nv2 k2 W) (hk : k2 ≤ 21) : WSt g X S kv pv cut fr m r bad w what i a b nv2 k2 (W.setCell ⟨X, 2, none⟩ nv2) :=
  ⟨hC.other (p := ⟨X, 2, none⟩) (hC.xg hX (by decide)) hXS _, by rw [heap_set hX]; rfl, hR.typed (Typed.set hX (by decide)), hk, hK.setx 2 _, hl, hb⟩

/-- What an append to the names leaves. -/
theorem WSt.grown {nv2 : Value} (h : WSt g X S kv pv cut fr m r bad w what i a b nv k W) (hXw : X < w.heap.size) (hgw : g < w.heap.size) (hSw : S.b < w.heap.size) (hR : Rowed w.heap.size 9 1 (OneStr 2000) nv2 (k + 1) W2) (hgr : W.grownBy W2 nv.ownBlock) :
    Cur g S W2 i a b kv ∧ W2.heap[X]? = some (.cells (secC pv what nv cut fr m) 57 (0, 0)) ∧ Kept2 g X w W2 := by
  have hlo : ∀ j, j < w.heap.size → W2.heap[j]? = W.heap[j]? := fun j hj => hgr.block j (Nat.lt_of_lt_of_le hj h.kk.size) fun e => by
    have := (h.row.lt j e.symm).1
    omega
  exact ⟨h.cur.of_blocks (hlo g hgw) (hlo S.b hSw), (hlo X hXw).trans h.hX, ⟨hgr.os.trans h.kk.os, hgr.tape.trans h.kk.tape, hgr.output.trans h.kk.output, Nat.le_trans h.kk.size hgr.size, fun j hj h1 h2 => (hlo j hj).trans (h.kk.block j hj h1 h2)⟩⟩

end

/-- What 'what' leaves. -/
def WhatP (g X : Nat) (S : Src) (kv pv : Value) (cut : Bool) (fr m : Int) (r : Nat) (bad : Bool) (w : World) (e : Ending) (W : World) : Prop :=
  e = .returned (.tuple #[]) ∧ ∃ what i a b nv k, WSt g X S kv pv cut fr m r bad w what i a b nv k W

/-- What holds ahead of a round. -/
def WhatR (g X : Nat) (S : Src) (kv pv : Value) (cut : Bool) (fr m : Int) (r : Nat) (bad : Bool) (w : World) (what : Int) (W : World) : Prop :=
  ∃ i a b nv k, WSt g X S kv pv cut fr m r bad w what i a b nv k W ∧ (b = false → k ≤ 20)

set_option maxHeartbeats 8000000 in
set_option maxRecDepth 100000 in
theorem what24 (g : Nat) (S : Src) (X : Nat) (i a : Nat) (bad : Bool) (kv pv : Value) (cut mime : Bool) (fr m : Int) (w : World) (h : Cur g S w i a bad kv) (hX : w.heap[X]? = some (.cells (secC pv 0 (.slice none 0 0) cut fr m) 57 (0, 0))) (hXS : X ≠ S.b) :
    Calls Tryz.prog 176 #[CC g, .pointer (some ⟨X, 0, none⟩), .bool mime] w (WhatP g X S kv pv cut fr m (left S i a) bad w) := by
  obtain ⟨i0, hi, hz0, hz1, hz2⟩ := info_parts info9
  have hgw : g < w.heap.size := h.lt
  have hSw : S.b < w.heap.size := h.slt
  have hXw : X < w.heap.size := (Array.getElem?_eq_some_iff.1 hX).1
  have H0 : Hid (WSt g X S kv pv cut fr m (left S i a) bad w 0 i a bad (.slice none 0 0) 0 w) := Lib.hid ⟨h, hX, Rowed.nil _, by omega, Kept2.refl g X w, Nat.le_refl _, id⟩
  generalize hr : left S i a = r at H0 ⊢
  clear hr h hX
  go_enter Tryz.func176, Tryz.ntmps176
  go_wp2_with fail
  refine (name24 g S i a bad kv ⟨#[]⟩ w H0.out.cur (by decide)).mono ?_
  rintro e w1 ⟨s, rfl, hs, hM, _⟩
  obtain ⟨i1, a1, b1, h1, _, _⟩ := H0.out.moved hM
  have H1 := Lib.hid h1
  have x1 := cell_hp h1.hX (j := 1) (v := .int .i64 0) rfl
  have y1 : w1.frozen? ⟨X, 1, none⟩ = false := Lib.frozen_of_heap h1.hX 1
  have c3 := h1.cur.c3
  have f3 := h1.cur.f3
  have hxg : X ≠ g := h1.cur.xg h1.hX (by decide)
  clear h1 hM hs H0
  by_cases t1 : (s.toList == [104, 101, 97, 100, 101, 114]) = true
  · go_wp2_with fail
    go_end0
    exact ⟨rfl, _, _, _, _, _, _, H1.out.set1 hXS 1⟩
  rw [Bool.not_eq_true] at t1
  by_cases t2 : (s.toList == [116, 101, 120, 116]) = true
  · go_wp2_with fail
    go_end0
    exact ⟨rfl, _, _, _, _, _, _, H1.out.set1 hXS 2⟩
  rw [Bool.not_eq_true] at t2
  by_cases t3 : (s.toList == [109, 105, 109, 101]) = true
  · go_wp2_with fail
    have h2 := H1.out.set1 hXS 3
    refine (fail_any g S i1 a1 b1 _ kv _ h2.cur).mono ?_
    rintro e w2 ⟨rfl, hC, hK⟩
    have h3 := h2.kept hC hK (Nat.le_refl _) (fun hb => by rw [hb]; rfl)
    have x2 := cell_hp h3.hX (j := 1) (v := .int .i64 3) rfl
    have H3 := Lib.hid h3
    clear h2 h3 hC hK
    go_wp2_with fail
    go_end0
    exact ⟨rfl, _, _, _, _, _, _, H3.out⟩
  rw [Bool.not_eq_true] at t3
  by_cases t4 : (s.toList == [104, 101, 97, 100, 101, 114, 46, 102, 105, 101, 108, 100, 115]) = true
  · go_wp2_with fail
    have h2 := H1.out.set1 hXS 4
    have H2 := Lib.hid h2
    clear h2 H1 x1 y1 c3 f3
    generalize w1.setCell ⟨X, 1, none⟩ (.int .i64 4) = w2 at *
    refine (eat_any g S i1 a1 b1 kv 32 w2 H2.out.cur).mono ?_
    rintro e w3 ⟨rfl, hM⟩
    obtain ⟨i3, a3, b3, h3, _, _⟩ := H2.out.eaten hM
    have H3 := Lib.hid h3
    clear h3 hM
    go_wp2_with fail
    refine (eat_any g S i3 a3 b3 kv 40 w3 H3.out.cur).mono ?_
    rintro e w4 ⟨rfl, hM⟩
    obtain ⟨i4, a4, b4, h4, _, _⟩ := H3.out.eaten hM
    have H4 := Lib.hid h4
    clear h4 hM
    go_wp2_with fail
    go_loopw [] (fun wr => WhatR g X S kv pv cut fr m r bad w 4 wr) (fun wr => togo g S wr)
    case atStart => exact ⟨i4, a4, b4, _, 0, H4.out, fun _ => by omega⟩
    case round =>
      obtain ⟨i5, a5, b5, nv, k, h5, hk⟩ := hrel
      have c3 := h5.cur.c3
      have x2 := cell_hp h5.hX (j := 2) (v := nv) rfl
      have H5 := Lib.hid h5
      have Hk := Lib.hid hk
      clear hk
      obtain ⟨nA, nC, rfl⟩ : ∃ A C, nv = .slice A k C := by
        rcases h5.row.slice with ⟨rfl, rfl⟩ | ⟨b, c, rfl⟩
        · exact ⟨_, _, rfl⟩
        · exact ⟨_, _, rfl⟩
      clear h5
      cases b5
      · have hk20 := Hk.out rfl
        clear Hk
        go_wp2_with fail
        have H5d := Lib.hid (H5.out.kept H5.out.cur.drew (Kept.refl g wr).drew (Nat.le_refl _) id)
        go_region_law (first
            | (refine step_call rfl 64 #[CC g, .int .i64 60] (by go_simp) (short24 g S i5 a5 false kv 60 _ H5d.out.cur) ?_; rintro e w6 ⟨s6, rfl, hs6, hM⟩; refine ⟨_, rfl, ?_⟩; obtain ⟨i6, a6, b6, h6, hb6, hl6⟩ := H5d.out.moved hM; have x6 := cell_hp h6.hX (j := 2) (v := .slice nA k nC) rfl; have x6a := cell_hp (h6.kept (h6.cur.alloc (.cells #[.string s6] 9)) ((Kept.refl g w6).alloc _) (Nat.le_refl _) id).hX (j := 2) (v := .slice nA k nC) rfl; have H6 := Lib.hid h6; clear h6 hM)
            | (refine step_append_row rfl _ _ 22 rfl w.heap.size 9 i0 (.string ⟨#[]⟩) 1 16 Tryz.underlying22 hi hz0 hz1 hz2 rfl (by decide) _ k (OneStr 2000) rfl (H6.out.row.step ((Below.refl _ w6).alloc (Nat.le_refl _) _)) w6.heap.size [.string s6] 9 (0, 0) rfl (MapKept.heap_alloc w6 _).1 rfl ⟨s6, rfl, hs6⟩ (by simp [Value.oneCell']) (by omega) (by decide) (by have := H6.out.kk.size; simp; omega) ?_; intro gb cap w7 hR7 hgr _; have hG := (H6.out.kept (H6.out.cur.alloc _) ((Kept.refl g w6).alloc _) (Nat.le_refl _) id).grown hXw hgw hSw hR7 hgr; have x7 := cell_hp hG.2.1 (j := 2) (v := .slice nA k nC) rfl; have y7 : w7.frozen? ⟨X, 2, none⟩ = false := Lib.frozen_of_heap hG.2.1 2; have HG := Lib.hid hG; have HR7 := Lib.hid hR7; clear hG hR7 hgr))
        all_goals
          have h8 := WSt.of_names HG.out.1 HG.out.2.1 HG.out.2.2 H6.out.le H6.out.bad hXS HR7.out (by omega)
          have x8 := cell_hp h8.hX (j := 2) (v := .slice (some ⟨gb, 0, none⟩) (k + 1) cap) rfl
          have H8 := Lib.hid h8
          clear h8 x7 y7 x6 x6a x2 c3
          go_wp2_with fail
          refine (fail_any g S i6 a6 b6 _ kv _ H8.out.cur).mono ?_
          rintro e w9 ⟨rfl, hC, hK⟩
          have h9 := H8.out.kept hC hK (Nat.le_refl _) (fun hb => by rw [hb]; rfl)
          have hk9 : (b6 || decide ((20 : Int) < (k : Int) + 1)) = false → k + 1 ≤ 20 := fun hb => by
            have := (Bool.or_eq_false_iff.mp hb).2
            simp at this
            omega
          have hb9 : b6 = true → (b6 || decide ((20 : Int) < (k : Int) + 1)) = true := fun hb => by rw [hb]; rfl
          generalize (b6 || decide ((20 : Int) < (k : Int) + 1)) = b9 at *
          have H9 := Lib.hid h9
          have Hk9 := Lib.hid hk9
          have Hb9 := Lib.hid hb9
          have Hb6 := Lib.hid hb6
          clear h9 hk9 hb9 hb6 hC hK
          go_wp2_with fail
          refine (if1_any g S i6 a6 b9 kv 41 w9 H9.out.cur).mono ?_
          rintro e w10 ⟨v10, rfl, hM, _⟩
          obtain ⟨i10, a10, b10, h10, hb10, hl10⟩ := H9.out.moved hM
          have H10 := Lib.hid h10
          have Hb10 := Lib.hid hb10
          clear h10 hb10 hM
          cases v10
          · go_wp2_with fail
            refine (eat_any g S i10 a10 b10 kv 32 w10 H10.out.cur).mono ?_
            rintro e w11 ⟨rfl, hM⟩
            obtain ⟨i11, a11, b11, h11, hb11, hl11⟩ := H10.out.eaten hM
            have H11 := Lib.hid h11
            have Hb11 := Lib.hid hb11
            clear h11 hb11 hM
            go_wp2_with fail
            go_roundw
            case rel => exact ⟨_, _, _, _, _, H11.out, fun hb => Hk9.out (by cases b9; rfl; exact absurd (Hb11.out (Hb10.out rfl)) (by simp [hb]))⟩
            case measure => exact togo_lt H5.out.cur H11.out.cur (hl11.imp id (by omega))
          · go_wp2_with fail
            go_end0
            exact ⟨rfl, _, _, _, _, _, _, H10.out⟩
      · go_wp2_with fail
        go_end0
        exact ⟨rfl, _, _, _, _, _, _, H5.out⟩
  rw [Bool.not_eq_true] at t4
  by_cases t5 : (s.toList == [104, 101, 97, 100, 101, 114, 46, 102, 105, 101, 108, 100, 115, 46, 110, 111, 116]) = true
  · go_wp2_with fail
    have h2 := H1.out.set1 hXS 5
    have H2 := Lib.hid h2
    clear h2 H1 x1 y1 c3 f3
    generalize w1.setCell ⟨X, 1, none⟩ (.int .i64 5) = w2 at *
    refine (eat_any g S i1 a1 b1 kv 32 w2 H2.out.cur).mono ?_
    rintro e w3 ⟨rfl, hM⟩
    obtain ⟨i3, a3, b3, h3, _, _⟩ := H2.out.eaten hM
    have H3 := Lib.hid h3
    clear h3 hM
    go_wp2_with fail
    refine (eat_any g S i3 a3 b3 kv 40 w3 H3.out.cur).mono ?_
    rintro e w4 ⟨rfl, hM⟩
    obtain ⟨i4, a4, b4, h4, _, _⟩ := H3.out.eaten hM
    have H4 := Lib.hid h4
    clear h4 hM
    go_wp2_with fail
    go_loopw [] (fun wr => WhatR g X S kv pv cut fr m r bad w 5 wr) (fun wr => togo g S wr)
    case atStart => exact ⟨i4, a4, b4, _, 0, H4.out, fun _ => by omega⟩
    case round =>
      obtain ⟨i5, a5, b5, nv, k, h5, hk⟩ := hrel
      have c3 := h5.cur.c3
      have x2 := cell_hp h5.hX (j := 2) (v := nv) rfl
      have H5 := Lib.hid h5
      have Hk := Lib.hid hk
      clear hk
      obtain ⟨nA, nC, rfl⟩ : ∃ A C, nv = .slice A k C := by
        rcases h5.row.slice with ⟨rfl, rfl⟩ | ⟨b, c, rfl⟩
        · exact ⟨_, _, rfl⟩
        · exact ⟨_, _, rfl⟩
      clear h5
      cases b5
      · have hk20 := Hk.out rfl
        clear Hk
        go_wp2_with fail
        have H5d := Lib.hid (H5.out.kept H5.out.cur.drew (Kept.refl g wr).drew (Nat.le_refl _) id)
        go_region_law (first
            | (refine step_call rfl 64 #[CC g, .int .i64 60] (by go_simp) (short24 g S i5 a5 false kv 60 _ H5d.out.cur) ?_; rintro e w6 ⟨s6, rfl, hs6, hM⟩; refine ⟨_, rfl, ?_⟩; obtain ⟨i6, a6, b6, h6, hb6, hl6⟩ := H5d.out.moved hM; have x6 := cell_hp h6.hX (j := 2) (v := .slice nA k nC) rfl; have x6a := cell_hp (h6.kept (h6.cur.alloc (.cells #[.string s6] 9)) ((Kept.refl g w6).alloc _) (Nat.le_refl _) id).hX (j := 2) (v := .slice nA k nC) rfl; have H6 := Lib.hid h6; clear h6 hM)
            | (refine step_append_row rfl _ _ 22 rfl w.heap.size 9 i0 (.string ⟨#[]⟩) 1 16 Tryz.underlying22 hi hz0 hz1 hz2 rfl (by decide) _ k (OneStr 2000) rfl (H6.out.row.step ((Below.refl _ w6).alloc (Nat.le_refl _) _)) w6.heap.size [.string s6] 9 (0, 0) rfl (MapKept.heap_alloc w6 _).1 rfl ⟨s6, rfl, hs6⟩ (by simp [Value.oneCell']) (by omega) (by decide) (by have := H6.out.kk.size; simp; omega) ?_; intro gb cap w7 hR7 hgr _; have hG := (H6.out.kept (H6.out.cur.alloc _) ((Kept.refl g w6).alloc _) (Nat.le_refl _) id).grown hXw hgw hSw hR7 hgr; have x7 := cell_hp hG.2.1 (j := 2) (v := .slice nA k nC) rfl; have y7 : w7.frozen? ⟨X, 2, none⟩ = false := Lib.frozen_of_heap hG.2.1 2; have HG := Lib.hid hG; have HR7 := Lib.hid hR7; clear hG hR7 hgr))
        all_goals
          have h8 := WSt.of_names HG.out.1 HG.out.2.1 HG.out.2.2 H6.out.le H6.out.bad hXS HR7.out (by omega)
          have x8 := cell_hp h8.hX (j := 2) (v := .slice (some ⟨gb, 0, none⟩) (k + 1) cap) rfl
          have H8 := Lib.hid h8
          clear h8 x7 y7 x6 x6a x2 c3
          go_wp2_with fail
          refine (fail_any g S i6 a6 b6 _ kv _ H8.out.cur).mono ?_
          rintro e w9 ⟨rfl, hC, hK⟩
          have h9 := H8.out.kept hC hK (Nat.le_refl _) (fun hb => by rw [hb]; rfl)
          have hk9 : (b6 || decide ((20 : Int) < (k : Int) + 1)) = false → k + 1 ≤ 20 := fun hb => by
            have := (Bool.or_eq_false_iff.mp hb).2
            simp at this
            omega
          have hb9 : b6 = true → (b6 || decide ((20 : Int) < (k : Int) + 1)) = true := fun hb => by rw [hb]; rfl
          generalize (b6 || decide ((20 : Int) < (k : Int) + 1)) = b9 at *
          have H9 := Lib.hid h9
          have Hk9 := Lib.hid hk9
          have Hb9 := Lib.hid hb9
          have Hb6 := Lib.hid hb6
          clear h9 hk9 hb9 hb6 hC hK
          go_wp2_with fail
          refine (if1_any g S i6 a6 b9 kv 41 w9 H9.out.cur).mono ?_
          rintro e w10 ⟨v10, rfl, hM, _⟩
          obtain ⟨i10, a10, b10, h10, hb10, hl10⟩ := H9.out.moved hM
          have H10 := Lib.hid h10
          have Hb10 := Lib.hid hb10
          clear h10 hb10 hM
          cases v10
          · go_wp2_with fail
            refine (eat_any g S i10 a10 b10 kv 32 w10 H10.out.cur).mono ?_
            rintro e w11 ⟨rfl, hM⟩
            obtain ⟨i11, a11, b11, h11, hb11, hl11⟩ := H10.out.eaten hM
            have H11 := Lib.hid h11
            have Hb11 := Lib.hid hb11
            clear h11 hb11 hM
            go_wp2_with fail
            go_roundw
            case rel => exact ⟨_, _, _, _, _, H11.out, fun hb => Hk9.out (by cases b9; rfl; exact absurd (Hb11.out (Hb10.out rfl)) (by simp [hb]))⟩
            case measure => exact togo_lt H5.out.cur H11.out.cur (hl11.imp id (by omega))
          · go_wp2_with fail
            go_end0
            exact ⟨rfl, _, _, _, _, _, _, H10.out⟩
      · go_wp2_with fail
        go_end0
        exact ⟨rfl, _, _, _, _, _, _, H5.out⟩
  rw [Bool.not_eq_true] at t5
  have x0 := x1
  go_wp2_with fail
  have h2 := H1.out.kept (H1.out.cur.set3 true) ((Kept.refl g w1).setg 3 _) (Nat.le_refl _) (fun _ => rfl)
  go_end0
  exact ⟨rfl, _, _, _, _, _, _, h2⟩

end Go.Proofs.YtjamgkcmpcnfpaaGreatDoor

namespace Go.Proofs.YtjamgkcmpcnfpaaGreatDoor
open Go.RowKit

/-- A new section's cells. -/
abbrev secZ : Array Value := secC (.slice none 0 0) 0 (.slice none 0 0) false 0 0

/-- Where 'section' stands, on the way from w. -/
structure SSt (g : Nat) (S : Src) (kv : Value) (r : Nat) (bad : Bool) (w : World) (pv : Value) (what : Int) (nv : Value) (cut : Bool) (fr m : Int) (p n i a : Nat) (b : Bool) (W : World) : Prop where
  cur : Cur g S W i a b kv
  hX : W.heap[w.heap.size + 1]? = some (.cells (secC pv what nv cut fr m) 57 (0, 0))
  hR : W.heap[w.heap.size]? = some (.cells secZ 57 (0, 0))
  rp : Rowed w.heap.size 3 1 OneInt pv p W
  rn : Rowed w.heap.size 9 1 (OneStr 2000) nv n W
  p11 : p ≤ 11
  n21 : n ≤ 21
  kk : Kept g w W
  le : left S i a ≤ r
  bad : bad = true → b = true

section
variable {g : Nat} {S : Src} {kv pv nv : Value} {cut : Bool} {fr m what : Int} {r i a i2 a2 p n : Nat} {bad b b2 : Bool} {w W W2 : World}

theorem SSt.xlt (h : SSt g S kv r bad w pv what nv cut fr m p n i a b W) : w.heap.size + 1 < W.heap.size := (Array.getElem?_eq_some_iff.1 h.hX).1
theorem SSt.xg (h : SSt g S kv r bad w pv what nv cut fr m p n i a b W) : w.heap.size + 1 ≠ g := h.cur.xg h.hX (by decide)
theorem SSt.one (h : SSt g S kv r bad w pv what nv cut fr m p n i a b W) : (secC pv what nv cut fr m).all (·.oneCell') = true := by
  rcases h.rp.slice with ⟨rfl, _⟩ | ⟨_, _, rfl⟩ <;> rcases h.rn.slice with ⟨rfl, _⟩ | ⟨_, _, rfl⟩ <;> simp [Value.oneCell']
theorem SSt.rg (h : SSt g S kv r bad w pv what nv cut fr m p n i a b W) : w.heap.size ≠ g := h.cur.xg h.hR (by decide)

theorem SSt.kept (h : SSt g S kv r bad w pv what nv cut fr m p n i a b W) (hC : Cur g S W2 i2 a2 b2 kv) (hK : Kept g W W2) (hl : left S i2 a2 ≤ left S i a) (hb : b = true → b2 = true) : SSt g S kv r bad w pv what nv cut fr m p n i2 a2 b2 W2 :=
  ⟨hC, (hK.block _ h.xlt h.xg).trans h.hX, (hK.block _ (by have := h.xlt; omega) h.rg).trans h.hR, h.rp.typed (hK.typed h.cur.hp (by decide)), h.rn.typed (hK.typed h.cur.hp (by decide)), h.p11, h.n21, h.kk.trans hK, Nat.le_trans hl h.le, fun x => hb (h.bad x)⟩

theorem SSt.moved (h : SSt g S kv r bad w pv what nv cut fr m p n i a b W) (hM : Moves g S kv (left S i a) b W W2) : ∃ i2 a2 b2, SSt g S kv r bad w pv what nv cut fr m p n i2 a2 b2 W2 ∧ (b = true → b2 = true) ∧ left S i2 a2 ≤ left S i a := by
  obtain ⟨i2, a2, b2, hC, hK, hl, hb⟩ := hM
  exact ⟨i2, a2, b2, h.kept hC hK hl hb, hb, hl⟩

theorem SSt.eaten (h : SSt g S kv r bad w pv what nv cut fr m p n i a b W) (hM : Eats g S kv (left S i a) b W W2) : ∃ i2 a2 b2, SSt g S kv r bad w pv what nv cut fr m p n i2 a2 b2 W2 ∧ (b = true → b2 = true) ∧ (b2 = true ∨ left S i2 a2 < left S i a) := by
  obtain ⟨i2, a2, b2, hC, hK, hl, hlt, hb⟩ := hM
  exact ⟨i2, a2, b2, h.kept hC hK hl hb, hb, hlt⟩

theorem SSt.drewN (h : SSt g S kv r bad w pv what nv cut fr m p n i a b W) (k : Nat) : SSt g S kv r bad w pv what nv cut fr m p n i a b (W.drewN k) :=
  h.kept (h.cur.drewN k) ((Kept.refl g W).drewN k) (Nat.le_refl _) id

/-- A store into the section's block. -/
theorem SSt.setX {pv2 nv2 : Value} {what2 fr2 m2 : Int} {cut2 : Bool} (h : SSt g S kv r bad w pv what nv cut fr m p n i a b W) (hSw : S.b < w.heap.size) (j : Nat) (u : Value) (hs : (secC pv what nv cut fr m).setIfInBounds j u = secC pv2 what2 nv2 cut2 fr2 m2)
    (hp : pv2 = pv) (hn : nv2 = nv) : SSt g S kv r bad w pv2 what2 nv2 cut2 fr2 m2 p n i a b (W.setCell ⟨w.heap.size + 1, j, none⟩ u) := by
  subst hp hn
  exact ⟨h.cur.other (p := ⟨w.heap.size + 1, j, none⟩) h.xg (by show w.heap.size + 1 ≠ S.b; omega) _, by rw [heap_set h.hX, hs], (Below.heap_setCell W ⟨w.heap.size + 1, j, none⟩ u w.heap.size (by show w.heap.size ≠ w.heap.size + 1; omega)).trans h.hR,
    h.rp.typed (Typed.set h.hX (by decide)), h.rn.typed (Typed.set h.hX (by decide)), h.p11, h.n21, h.kk.setCell (p := ⟨w.heap.size + 1, j, none⟩) (.inr (by show w.heap.size ≤ w.heap.size + 1; omega)) _, h.le, h.bad⟩

theorem SSt.set3 (h : SSt g S kv r bad w pv what nv cut fr m p n i a b W) (hSw : S.b < w.heap.size) (u : Bool) : SSt g S kv r bad w pv what nv u fr m p n i a b (W.setCell ⟨w.heap.size + 1, 3, none⟩ (.bool u)) := h.setX hSw 3 _ rfl rfl rfl
theorem SSt.set4 (h : SSt g S kv r bad w pv what nv cut fr m p n i a b W) (hSw : S.b < w.heap.size) (u : Int) : SSt g S kv r bad w pv what nv cut u m p n i a b (W.setCell ⟨w.heap.size + 1, 4, none⟩ (.int .i64 u)) := h.setX hSw 4 _ rfl rfl rfl
theorem SSt.set5 (h : SSt g S kv r bad w pv what nv cut fr m p n i a b W) (hSw : S.b < w.heap.size) (u : Int) : SSt g S kv r bad w pv what nv cut fr u p n i a b (W.setCell ⟨w.heap.size + 1, 5, none⟩ (.int .i64 u)) := h.setX hSw 5 _ rfl rfl rfl

/-- What an append to the path leaves. -/
theorem SSt.grown (h : SSt g S kv r bad w pv what nv cut fr m p n i a b W) (hSw : S.b < w.heap.size) (hgr : W.grownBy W2 pv.ownBlock) :
    Cur g S W2 i a b kv ∧ W2.heap[w.heap.size + 1]? = some (.cells (secC pv what nv cut fr m) 57 (0, 0)) ∧ W2.heap[w.heap.size]? = some (.cells secZ 57 (0, 0)) ∧ Rowed w.heap.size 9 1 (OneStr 2000) nv n W2 ∧ Kept g w W2 := by
  have own : ∀ k, pv.ownBlock = some k → ∃ (cs : Array Value) (fr : Nat × Nat), W.heap[k]? = some (.cells cs 3 fr) := fun k hk => h.rp.type_ hk
  have blk : ∀ (k : Nat) (cs : Array Value) (t : TypeId) (fr : Nat × Nat), t ≠ 3 → W.heap[k]? = some (.cells cs t fr) → W2.heap[k]? = W.heap[k]? := fun k cs t fr ht hk =>
    hgr.block k (Array.getElem?_eq_some_iff.1 hk).1 fun e => by
      obtain ⟨cs', fr', hh⟩ := own k e.symm
      rw [hk] at hh
      injection hh with hh
      injection hh with _ hh
      exact ht hh
  have low : ∀ k, k < w.heap.size → W2.heap[k]? = W.heap[k]? := fun k hk => hgr.block k (Nat.lt_of_lt_of_le hk h.kk.size) fun e => by
    have := (h.rp.lt k e.symm).1
    omega
  refine ⟨?_, (blk _ _ _ _ (by decide) h.hX).trans h.hX, (blk _ _ _ _ (by decide) h.hR).trans h.hR, h.rn.typed (fun k cs fr hk => blk k cs 9 fr (by decide) hk), ⟨hgr.os.trans h.kk.os, hgr.tape.trans h.kk.tape, hgr.output.trans h.kk.output, Nat.le_trans h.kk.size hgr.size, fun k hk hg => (low k hk).trans (h.kk.block k hk hg)⟩⟩
  exact h.cur.of_blocks (blk g _ _ _ (by decide) h.cur.hp) (low _ hSw)

/-- The path, grown, is stored. -/
theorem SSt.of_path {pv2 : Value} {p2 : Nat} (hC : Cur g S W i a b kv) (hX : W.heap[w.heap.size + 1]? = some (.cells (secC pv what nv cut fr m) 57 (0, 0))) (hR : W.heap[w.heap.size]? = some (.cells secZ 57 (0, 0))) (hN : Rowed w.heap.size 9 1 (OneStr 2000) nv n W)
    (hK : Kept g w W) (hP : Rowed w.heap.size 3 1 OneInt pv2 p2 W) (hSw : S.b < w.heap.size) (hp : p2 ≤ 11) (hn : n ≤ 21) (hl : left S i a ≤ r) (hb : bad = true → b = true) :
    SSt g S kv r bad w pv2 what nv cut fr m p2 n i a b (W.setCell ⟨w.heap.size + 1, 0, none⟩ pv2) :=
  ⟨hC.other (p := ⟨w.heap.size + 1, 0, none⟩) (hC.xg hX (by decide)) (by show w.heap.size + 1 ≠ S.b; omega) _, by rw [heap_set hX]; rfl, (Below.heap_setCell W ⟨w.heap.size + 1, 0, none⟩ pv2 w.heap.size (by show w.heap.size ≠ w.heap.size + 1; omega)).trans hR,
    hP.typed (Typed.set hX (by decide)), hN.typed (Typed.set hX (by decide)), hp, hn, hK.setCell (p := ⟨w.heap.size + 1, 0, none⟩) (.inr (by show w.heap.size ≤ w.heap.size + 1; omega)) _, hl, hb⟩

/-- What 'what' leaves. -/
theorem SSt.sec {k : Nat} {what2 : Int} {nv2 : Value} (h : SSt g S kv r bad w pv 0 (.slice none 0 0) cut fr m p 0 i a b W) (hW : WSt g (w.heap.size + 1) S kv pv cut fr m (left S i a) b W what2 i2 a2 b2 nv2 k W2) :
    SSt g S kv r bad w pv what2 nv2 cut fr m p k i2 a2 b2 W2 :=
  have blk : ∀ (j : Nat) (cs : Array Value) (t : TypeId) (fr : Nat × Nat), t ≠ 57 → t ≠ 69 → W.heap[j]? = some (.cells cs t fr) → W2.heap[j]? = W.heap[j]? := fun j cs t fr h1 h2 hj =>
    hW.kk.block j (Array.getElem?_eq_some_iff.1 hj).1 (fun e => by
        subst e
        have := h.cur.hp
        rw [hj] at this
        injection this with this
        injection this with _ this
        exact h2 this) (fun e => by
        rw [e, h.hX] at hj
        injection hj with hj
        injection hj with _ hj
        exact h1 hj.symm)
  ⟨hW.cur, hW.hX, (hW.kk.block _ (by have := h.xlt; omega) h.rg (by omega)).trans h.hR, h.rp.typed (fun j cs fr hj => blk j cs 3 fr (by decide) (by decide) hj), hW.row.base h.kk.size, h.p11, hW.k21,
   ⟨hW.kk.os.trans h.kk.os, hW.kk.tape.trans h.kk.tape, hW.kk.output.trans h.kk.output, Nat.le_trans h.kk.size hW.kk.size, fun j hj hg => (hW.kk.block j (Nat.lt_of_lt_of_le hj h.kk.size) hg (by omega)).trans (h.kk.block j hj hg)⟩,
   Nat.le_trans hW.le h.le, fun x => hW.bad (h.bad x)⟩

end

/-- A section is returned; the cursor moved. -/
def SecP (g : Nat) (S : Src) (kv : Value) (r : Nat) (bad : Bool) (w : World) (e : Ending) (W : World) : Prop :=
  ∃ cs : Array Value, e = .returned (.agg cs) ∧ cs.size = 6 ∧ SecOk w.heap.size W cs.toList ∧ Moves g S kv r bad w W

/-- What holds ahead of a round. -/
def SecR (g : Nat) (S : Src) (kv : Value) (r : Nat) (bad : Bool) (w W : World) : Prop :=
  ∃ i a b pv p, SSt g S kv r bad w pv 0 (.slice none 0 0) false 0 0 p 0 i a b W ∧ (b = false → p ≤ 10)

theorem secC_size (pv : Value) (what : Int) (nv : Value) (cut : Bool) (fr m : Int) : (Tryz.prog.info? 57).map (·.size) = some (secC pv what nv cut fr m).size := by
  rw [show (secC pv what nv cut fr m).size = 6 from rfl]; kernel_rfl

/-- The section's cells are stored where the result lies. -/
theorem SSt.done {g : Nat} {S : Src} {kv pv nv : Value} {cut : Bool} {fr m what : Int} {r i a p n : Nat} {bad b : Bool} {w W : World} (h : SSt g S kv r bad w pv what nv cut fr m p n i a b W) (hgw : g < w.heap.size) (hSw : S.b < w.heap.size) :
    SecP g S kv r bad w (.returned (.agg (secC pv what nv cut fr m))) (W.setRow w.heap.size (secC pv what nv cut fr m)) := by
  have other : ∀ k, k ≠ w.heap.size → (W.setRow w.heap.size (secC pv what nv cut fr m)).heap[k]? = W.heap[k]? := fun k hk => setRow_other _ _ _ _ hk
  have typ : ∀ e : TypeId, e ≠ 57 → Typed e W (W.setRow w.heap.size (secC pv what nv cut fr m)) := fun e he k cs fr' hk => other k fun e1 => by
    rw [e1, h.hR] at hk
    injection hk with hk
    injection hk with _ hk
    exact he hk.symm
  refine ⟨_, rfl, rfl, ⟨pv, nv, p, n, what, fr, m, cut, rfl, h.p11, h.n21, h.rp.typed (typ 3 (by decide)), h.rn.typed (typ 9 (by decide))⟩, i, a, b, ?_, ?_, h.le, h.bad⟩
  · exact h.cur.of_blocks (other _ (by omega)) (other _ (by omega))
  · exact ⟨h.kk.os, h.kk.tape, h.kk.output, by simpa [World.setRow] using h.kk.size, fun k hk hg => (other k (by omega)).trans (h.kk.block k hk hg)⟩

set_option maxHeartbeats 16000000 in
set_option maxRecDepth 100000 in
theorem section24 (g : Nat) (S : Src) (i a : Nat) (bad : Bool) (kv : Value) (w : World) (h : Cur g S w i a bad kv) : Calls Tryz.prog 135 #[CC g] w (SecP g S kv (left S i a) bad w) := by
  obtain ⟨i0, hi, hz0, hz1, hz2⟩ := info_parts info3
  have hgw : g < w.heap.size := h.lt
  have hSw : S.b < w.heap.size := h.slt
  have h0 : SSt g S kv (left S i a) bad w (.slice none 0 0) 0 (.slice none 0 0) false 0 0 0 0 i a bad ((w.alloc (.cells secZ 57)).alloc (.cells secZ 57)) :=
    ⟨(h.alloc _).alloc _, by have := (MapKept.heap_alloc (w.alloc (.cells secZ 57)) (.cells secZ 57)).1; rwa [World.size_alloc] at this, (Below.heap_alloc _ _ _ (by simp)).trans (MapKept.heap_alloc w _).1, Rowed.nil _, Rowed.nil _, by omega, by omega, ((Kept.refl g w).alloc _).alloc _, Nat.le_refl _, id⟩
  have H0 := Lib.hid h0
  generalize left S i a = r at H0 ⊢
  clear h0 h
  go_enter Tryz.func135, Tryz.ntmps135
  go_wp2_with fail
  go_loopw [] (fun wr => SecR g S kv r bad w wr) (fun wr => togo g S wr)
  case atStart => exact ⟨_, _, _, _, _, H0.out, fun _ => by omega⟩
  case round =>
    clear H0
    obtain ⟨i2, a2, b2, pv, p, h2, hk⟩ := hrel
    obtain ⟨pA, pC, rfl⟩ : ∃ A C, pv = .slice A p C := by
      rcases h2.rp.slice with ⟨rfl, rfl⟩ | ⟨b, c, rfl⟩
      · exact ⟨_, _, rfl⟩
      · exact ⟨_, _, rfl⟩
    have c3 := h2.cur.c3
    have x0 := cell_hp h2.hX (j := 0) (v := .slice pA p pC) rfl
    have y0 : wr.frozen? ⟨w.heap.size + 1, 0, none⟩ = false := Lib.frozen_of_heap h2.hX 0
    have H2 := Lib.hid h2
    have Hk := Lib.hid hk
    have hp11 := h2.p11
    clear h2 hk
    cases b2
    · have hp10 := Hk.out rfl
      clear Hk
      go_wp2_with fail
      refine (peek_any g S i2 a2 false kv wr H2.out.cur).mono ?_
      rintro e w2 ⟨rfl, m, rfl⟩
      have H2m := Lib.hid (H2.out.drewN m)
      generalize peekV S i2 a2 false = v
      by_cases h48 : (48 : Int) ≤ v
      · by_cases h57 : v ≤ 57
        · go_wp2_with fail
          refine (number24 g S i2 a2 false kv _ H2m.out.cur).mono ?_
          rintro e w3 ⟨n3, rfl, hM⟩
          obtain ⟨i3, a3, b3, h3, hb3, hl3⟩ := H2m.out.moved hM
          have x30 := cell_hp h3.hX (j := 0) (v := .slice pA p pC) rfl
          have y30 : w3.frozen? ⟨w.heap.size + 1, 0, none⟩ = false := Lib.frozen_of_heap h3.hX 0
          have h3a := h3.kept (h3.cur.alloc (.cells #[.int .i64 n3] 3)) ((Kept.refl g w3).alloc _) (Nat.le_refl _) id
          have H3a := Lib.hid h3a
          clear h3 h3a hM x0 y0 c3
          go_wp2_with (at_builtin; refine wpList_append_row rfl _ _ 27 rfl w.heap.size 3 i0 (.int .i64 0) 1 8 Tryz.underlying27 hi hz0 hz1 hz2 rfl (by decide) _ p OneInt rfl H3a.out.rp w3.heap.size [.int .i64 n3] 3 (0, 0) rfl (MapKept.heap_alloc w3 _).1 rfl ⟨_, rfl⟩ ?c1 ?c2 (by decide) ?c3 ?_)
          case c1 => simp [Value.oneCell']
          case c2 => omega
          case c3 => exact H3a.out.kk.size
          intro v4 w4 hR4 hgr
          obtain ⟨gA, gC, rfl⟩ : ∃ A C, v4 = .slice A (p + 1) C := by
            rcases hR4.slice with ⟨rfl, h0⟩ | ⟨b, c, rfl⟩
            · exact absurd h0 (by omega)
            · exact ⟨_, _, rfl⟩
          have hG := H3a.out.grown hSw hgr
          have x4 := cell_hp hG.2.1 (j := 0) (v := .slice pA p pC) rfl
          have y4 : w4.frozen? ⟨w.heap.size + 1, 0, none⟩ = false := Lib.frozen_of_heap hG.2.1 0
          have h5 := SSt.of_path (r := r) (bad := bad) hG.1 hG.2.1 hG.2.2.1 hG.2.2.2.1 hG.2.2.2.2 hR4 hSw (by omega) (by omega) H3a.out.le H3a.out.bad
          have x5 := cell_hp h5.hX (j := 0) (v := .slice gA (p + 1) gC) rfl
          have H5 := Lib.hid h5
          clear hG h5 hR4 hgr x30 y30
          by_cases hn1 : n3 < 1
          · have hn1' : decide (n3 < 1) = true := by simpa using hn1
            go_wp2_with fail
            refine (fail_any g S i3 a3 b3 _ kv _ H5.out.cur).mono ?_
            rintro e w6 ⟨rfl, hC, hK⟩
            have h6 := H5.out.kept hC hK (Nat.le_refl _) (fun hb => by rw [hb]; rfl)
            have hk6 : (b3 || true) = false → p + 1 ≤ 10 := fun hb => by
              have := (Bool.or_eq_false_iff.mp hb).2
              simp at this
              try omega
            generalize (b3 || true) = b6 at *
            have H6 := Lib.hid h6
            have Hk6 := Lib.hid hk6
            clear h6 hk6 hC hK x4 y4 x5
            go_wp2_with fail
            refine (if1_any g S i3 a3 b6 kv 93 w6 H6.out.cur).mono ?_
            rintro e w7 ⟨v7, rfl, hM, _⟩
            obtain ⟨i7, a7, b7, h7, hb7, hl7⟩ := H6.out.moved hM
            have H7 := Lib.hid h7
            have Hb7 := Lib.hid hb7
            clear h7 hM hb7
            cases v7
            · go_wp2_with fail
              refine (eat_any g S i7 a7 b7 kv 46 w7 H7.out.cur).mono ?_
              rintro e w8 ⟨rfl, hM⟩
              obtain ⟨i8, a8, b8, h8, hb8, hl8⟩ := H7.out.eaten hM
              have H8 := Lib.hid h8
              have Hb8 := Lib.hid hb8
              clear h8 hM hb8
              go_wp2_with fail
              go_roundw
              case rel => exact ⟨_, _, _, _, _, H8.out, fun hb => Hk6.out (by cases b6; rfl; exact absurd (Hb8.out (Hb7.out rfl)) (by simp [hb]))⟩
              case measure => exact togo_lt H2.out.cur H8.out.cur (hl8.imp id (by omega))
            · go_wp2_with fail
              refine (if1_any g S i7 a7 b7 kv 60 w7 H7.out.cur).mono ?_
              rintro e w20 ⟨v20, rfl, hM, hno⟩
              clear hno
              obtain ⟨i20, a20, b20, h20, _, _⟩ := H7.out.moved hM
              have H20 := Lib.hid h20
              clear hM
              cases v20
              · clear h20
                go_wp2_with (first
                  | (refine wpList_load_row rfl 57 _ rfl (w.heap.size + 1) rfl 57 _ (0, 0) _ H20.out.hX Tryz.underlying57 rfl (secC_size _ _ _ _ _ _) ?_)
                  | (refine wpList_store_row rfl 57 _ _ rfl w.heap.size _ rfl rfl 57 secZ H20.out.hR (secC_size _ _ _ _ _ _) rfl H20.out.one ?_))
                exact bodyPost_ret (results_cell_row rfl _ _ w.heap.size 57 _ (0, 0) _ rfl (setRow_heap _ _ _ _ _ _ H20.out.hR) Tryz.underlying57 rfl (secC_size _ _ _ _ _ _)) rfl (H20.out.done hgw hSw)
              · have x3 := cell_hp h20.hX (j := 3) (v := .bool false) rfl
                have y3 : w20.frozen? ⟨w.heap.size + 1, 3, none⟩ = false := Lib.frozen_of_heap h20.hX 3
                have H21 := Lib.hid (h20.set3 hSw true)
                clear h20
                go_wp2_with fail
                clear x3 y3
                generalize w20.setCell ⟨w.heap.size + 1, 3, none⟩ (.bool true) = w21 at *
                refine (number24 g S i20 a20 b20 kv w21 H21.out.cur).mono ?_
                rintro e w22 ⟨n22, rfl, hM⟩
                obtain ⟨i22, a22, b22, h22, _, _⟩ := H21.out.moved hM
                have x4 := cell_hp h22.hX (j := 4) (v := .int .i64 0) rfl
                have y4 : w22.frozen? ⟨w.heap.size + 1, 4, none⟩ = false := Lib.frozen_of_heap h22.hX 4
                have H22 := Lib.hid (h22.set4 hSw n22)
                clear h22 hM
                go_wp2_with fail
                clear x4 y4
                generalize w22.setCell ⟨w.heap.size + 1, 4, none⟩ (.int .i64 n22) = w23 at *
                refine (eat_any g S i22 a22 b22 kv 46 w23 H22.out.cur).mono ?_
                rintro e w24 ⟨rfl, hM⟩
                obtain ⟨i24, a24, b24, h24, _, _⟩ := H22.out.eaten hM
                have H24 := Lib.hid h24
                clear h24 hM
                go_wp2_with fail
                refine (number24 g S i24 a24 b24 kv w24 H24.out.cur).mono ?_
                rintro e w25 ⟨n25, rfl, hM⟩
                obtain ⟨i25, a25, b25, h25, _, _⟩ := H24.out.moved hM
                have x5 := cell_hp h25.hX (j := 5) (v := .int .i64 0) rfl
                have y5 : w25.frozen? ⟨w.heap.size + 1, 5, none⟩ = false := Lib.frozen_of_heap h25.hX 5
                have H25 := Lib.hid (h25.set5 hSw n25)
                clear h25 hM
                go_wp2_with fail
                refine (fail_any g S i25 a25 b25 _ kv _ H25.out.cur).mono ?_
                rintro e w26 ⟨rfl, hC, hK⟩
                have H26 := Lib.hid (H25.out.kept hC hK (Nat.le_refl _) (fun hb => by rw [hb]; rfl))
                clear hC hK x5 y5
                generalize (b25 || n25 == 0) = b26 at *
                go_wp2_with fail
                refine (eat_any g S i25 a25 b26 kv 62 w26 H26.out.cur).mono ?_
                rintro e w27 ⟨rfl, hM⟩
                obtain ⟨i27, a27, b27, h27, _, _⟩ := H26.out.eaten hM
                have H27 := Lib.hid h27
                clear h27 hM
                go_wp2_with (first
                  | (refine wpList_load_row rfl 57 _ rfl (w.heap.size + 1) rfl 57 _ (0, 0) _ H27.out.hX Tryz.underlying57 rfl (secC_size _ _ _ _ _ _) ?_)
                  | (refine wpList_store_row rfl 57 _ _ rfl w.heap.size _ rfl rfl 57 secZ H27.out.hR (secC_size _ _ _ _ _ _) rfl H27.out.one ?_))
                exact bodyPost_ret (results_cell_row rfl _ _ w.heap.size 57 _ (0, 0) _ rfl (setRow_heap _ _ _ _ _ _ H27.out.hR) Tryz.underlying57 rfl (secC_size _ _ _ _ _ _)) rfl (H27.out.done hgw hSw)
          · have hn1' : decide (n3 < 1) = false := by simpa using hn1
            go_wp2_with fail
            refine (fail_any g S i3 a3 b3 _ kv _ H5.out.cur).mono ?_
            rintro e w6 ⟨rfl, hC, hK⟩
            have h6 := H5.out.kept hC hK (Nat.le_refl _) (fun hb => by rw [hb]; rfl)
            have hk6 : (b3 || decide ((10 : Int) < (p : Int) + 1)) = false → p + 1 ≤ 10 := fun hb => by
              have := (Bool.or_eq_false_iff.mp hb).2
              simp at this
              try omega
            generalize (b3 || decide ((10 : Int) < (p : Int) + 1)) = b6 at *
            have H6 := Lib.hid h6
            have Hk6 := Lib.hid hk6
            clear h6 hk6 hC hK x4 y4 x5
            go_wp2_with fail
            refine (if1_any g S i3 a3 b6 kv 93 w6 H6.out.cur).mono ?_
            rintro e w7 ⟨v7, rfl, hM, _⟩
            obtain ⟨i7, a7, b7, h7, hb7, hl7⟩ := H6.out.moved hM
            have H7 := Lib.hid h7
            have Hb7 := Lib.hid hb7
            clear h7 hM hb7
            cases v7
            · go_wp2_with fail
              refine (eat_any g S i7 a7 b7 kv 46 w7 H7.out.cur).mono ?_
              rintro e w8 ⟨rfl, hM⟩
              obtain ⟨i8, a8, b8, h8, hb8, hl8⟩ := H7.out.eaten hM
              have H8 := Lib.hid h8
              have Hb8 := Lib.hid hb8
              clear h8 hM hb8
              go_wp2_with fail
              go_roundw
              case rel => exact ⟨_, _, _, _, _, H8.out, fun hb => Hk6.out (by cases b6; rfl; exact absurd (Hb8.out (Hb7.out rfl)) (by simp [hb]))⟩
              case measure => exact togo_lt H2.out.cur H8.out.cur (hl8.imp id (by omega))
            · go_wp2_with fail
              refine (if1_any g S i7 a7 b7 kv 60 w7 H7.out.cur).mono ?_
              rintro e w20 ⟨v20, rfl, hM, hno⟩
              clear hno
              obtain ⟨i20, a20, b20, h20, _, _⟩ := H7.out.moved hM
              have H20 := Lib.hid h20
              clear hM
              cases v20
              · clear h20
                go_wp2_with (first
                  | (refine wpList_load_row rfl 57 _ rfl (w.heap.size + 1) rfl 57 _ (0, 0) _ H20.out.hX Tryz.underlying57 rfl (secC_size _ _ _ _ _ _) ?_)
                  | (refine wpList_store_row rfl 57 _ _ rfl w.heap.size _ rfl rfl 57 secZ H20.out.hR (secC_size _ _ _ _ _ _) rfl H20.out.one ?_))
                exact bodyPost_ret (results_cell_row rfl _ _ w.heap.size 57 _ (0, 0) _ rfl (setRow_heap _ _ _ _ _ _ H20.out.hR) Tryz.underlying57 rfl (secC_size _ _ _ _ _ _)) rfl (H20.out.done hgw hSw)
              · have x3 := cell_hp h20.hX (j := 3) (v := .bool false) rfl
                have y3 : w20.frozen? ⟨w.heap.size + 1, 3, none⟩ = false := Lib.frozen_of_heap h20.hX 3
                have H21 := Lib.hid (h20.set3 hSw true)
                clear h20
                go_wp2_with fail
                clear x3 y3
                generalize w20.setCell ⟨w.heap.size + 1, 3, none⟩ (.bool true) = w21 at *
                refine (number24 g S i20 a20 b20 kv w21 H21.out.cur).mono ?_
                rintro e w22 ⟨n22, rfl, hM⟩
                obtain ⟨i22, a22, b22, h22, _, _⟩ := H21.out.moved hM
                have x4 := cell_hp h22.hX (j := 4) (v := .int .i64 0) rfl
                have y4 : w22.frozen? ⟨w.heap.size + 1, 4, none⟩ = false := Lib.frozen_of_heap h22.hX 4
                have H22 := Lib.hid (h22.set4 hSw n22)
                clear h22 hM
                go_wp2_with fail
                clear x4 y4
                generalize w22.setCell ⟨w.heap.size + 1, 4, none⟩ (.int .i64 n22) = w23 at *
                refine (eat_any g S i22 a22 b22 kv 46 w23 H22.out.cur).mono ?_
                rintro e w24 ⟨rfl, hM⟩
                obtain ⟨i24, a24, b24, h24, _, _⟩ := H22.out.eaten hM
                have H24 := Lib.hid h24
                clear h24 hM
                go_wp2_with fail
                refine (number24 g S i24 a24 b24 kv w24 H24.out.cur).mono ?_
                rintro e w25 ⟨n25, rfl, hM⟩
                obtain ⟨i25, a25, b25, h25, _, _⟩ := H24.out.moved hM
                have x5 := cell_hp h25.hX (j := 5) (v := .int .i64 0) rfl
                have y5 : w25.frozen? ⟨w.heap.size + 1, 5, none⟩ = false := Lib.frozen_of_heap h25.hX 5
                have H25 := Lib.hid (h25.set5 hSw n25)
                clear h25 hM
                go_wp2_with fail
                refine (fail_any g S i25 a25 b25 _ kv _ H25.out.cur).mono ?_
                rintro e w26 ⟨rfl, hC, hK⟩
                have H26 := Lib.hid (H25.out.kept hC hK (Nat.le_refl _) (fun hb => by rw [hb]; rfl))
                clear hC hK x5 y5
                generalize (b25 || n25 == 0) = b26 at *
                go_wp2_with fail
                refine (eat_any g S i25 a25 b26 kv 62 w26 H26.out.cur).mono ?_
                rintro e w27 ⟨rfl, hM⟩
                obtain ⟨i27, a27, b27, h27, _, _⟩ := H26.out.eaten hM
                have H27 := Lib.hid h27
                clear h27 hM
                go_wp2_with (first
                  | (refine wpList_load_row rfl 57 _ rfl (w.heap.size + 1) rfl 57 _ (0, 0) _ H27.out.hX Tryz.underlying57 rfl (secC_size _ _ _ _ _ _) ?_)
                  | (refine wpList_store_row rfl 57 _ _ rfl w.heap.size _ rfl rfl 57 secZ H27.out.hR (secC_size _ _ _ _ _ _) rfl H27.out.one ?_))
                exact bodyPost_ret (results_cell_row rfl _ _ w.heap.size 57 _ (0, 0) _ rfl (setRow_heap _ _ _ _ _ _ H27.out.hR) Tryz.underlying57 rfl (secC_size _ _ _ _ _ _)) rfl (H27.out.done hgw hSw)
        · by_cases hp0 : p = 0
          · subst hp0
            go_wp2_with fail
            refine (if1_any g S i2 a2 false kv 93 _ H2m.out.cur).mono ?_
            rintro e w3 ⟨v3, rfl, hM, _⟩
            obtain ⟨i3, a3, b3, h3, _, _⟩ := H2m.out.moved hM
            have x0 := cell_hp h3.hX (j := 0) (v := .slice pA 0 pC) rfl
            have H3 := Lib.hid h3
            clear h3 hM
            cases v3
            · go_wp2_with fail
              refine (what24 g S (w.heap.size + 1) i3 a3 b3 kv _ false false 0 0 w3 H3.out.cur H3.out.hX (by omega)).mono ?_
              rintro e w4 ⟨rfl, what4, i4, a4, b4, nv4, n4, hW⟩
              have H4 := Lib.hid (H3.out.sec hW)
              clear hW
              go_wp2_with fail
              refine (eat_any g S i4 a4 b4 kv 93 w4 H4.out.cur).mono ?_
              rintro e w5 ⟨rfl, hM⟩
              obtain ⟨i5, a5, b5, h5, _, _⟩ := H4.out.eaten hM
              have H5 := Lib.hid h5
              clear h5 hM
              go_wp2_with fail
              refine (if1_any g S i5 a5 b5 kv 60 w5 H5.out.cur).mono ?_
              rintro e w20 ⟨v20, rfl, hM, hno⟩
              clear hno
              obtain ⟨i20, a20, b20, h20, _, _⟩ := H5.out.moved hM
              have H20 := Lib.hid h20
              clear hM
              cases v20
              · clear h20
                go_wp2_with (first
                  | (refine wpList_load_row rfl 57 _ rfl (w.heap.size + 1) rfl 57 _ (0, 0) _ H20.out.hX Tryz.underlying57 rfl (secC_size _ _ _ _ _ _) ?_)
                  | (refine wpList_store_row rfl 57 _ _ rfl w.heap.size _ rfl rfl 57 secZ H20.out.hR (secC_size _ _ _ _ _ _) rfl H20.out.one ?_))
                exact bodyPost_ret (results_cell_row rfl _ _ w.heap.size 57 _ (0, 0) _ rfl (setRow_heap _ _ _ _ _ _ H20.out.hR) Tryz.underlying57 rfl (secC_size _ _ _ _ _ _)) rfl (H20.out.done hgw hSw)
              · have x3 := cell_hp h20.hX (j := 3) (v := .bool false) rfl
                have y3 : w20.frozen? ⟨w.heap.size + 1, 3, none⟩ = false := Lib.frozen_of_heap h20.hX 3
                have H21 := Lib.hid (h20.set3 hSw true)
                clear h20
                go_wp2_with fail
                clear x3 y3
                generalize w20.setCell ⟨w.heap.size + 1, 3, none⟩ (.bool true) = w21 at *
                refine (number24 g S i20 a20 b20 kv w21 H21.out.cur).mono ?_
                rintro e w22 ⟨n22, rfl, hM⟩
                obtain ⟨i22, a22, b22, h22, _, _⟩ := H21.out.moved hM
                have x4 := cell_hp h22.hX (j := 4) (v := .int .i64 0) rfl
                have y4 : w22.frozen? ⟨w.heap.size + 1, 4, none⟩ = false := Lib.frozen_of_heap h22.hX 4
                have H22 := Lib.hid (h22.set4 hSw n22)
                clear h22 hM
                go_wp2_with fail
                clear x4 y4
                generalize w22.setCell ⟨w.heap.size + 1, 4, none⟩ (.int .i64 n22) = w23 at *
                refine (eat_any g S i22 a22 b22 kv 46 w23 H22.out.cur).mono ?_
                rintro e w24 ⟨rfl, hM⟩
                obtain ⟨i24, a24, b24, h24, _, _⟩ := H22.out.eaten hM
                have H24 := Lib.hid h24
                clear h24 hM
                go_wp2_with fail
                refine (number24 g S i24 a24 b24 kv w24 H24.out.cur).mono ?_
                rintro e w25 ⟨n25, rfl, hM⟩
                obtain ⟨i25, a25, b25, h25, _, _⟩ := H24.out.moved hM
                have x5 := cell_hp h25.hX (j := 5) (v := .int .i64 0) rfl
                have y5 : w25.frozen? ⟨w.heap.size + 1, 5, none⟩ = false := Lib.frozen_of_heap h25.hX 5
                have H25 := Lib.hid (h25.set5 hSw n25)
                clear h25 hM
                go_wp2_with fail
                refine (fail_any g S i25 a25 b25 _ kv _ H25.out.cur).mono ?_
                rintro e w26 ⟨rfl, hC, hK⟩
                have H26 := Lib.hid (H25.out.kept hC hK (Nat.le_refl _) (fun hb => by rw [hb]; rfl))
                clear hC hK x5 y5
                generalize (b25 || n25 == 0) = b26 at *
                go_wp2_with fail
                refine (eat_any g S i25 a25 b26 kv 62 w26 H26.out.cur).mono ?_
                rintro e w27 ⟨rfl, hM⟩
                obtain ⟨i27, a27, b27, h27, _, _⟩ := H26.out.eaten hM
                have H27 := Lib.hid h27
                clear h27 hM
                go_wp2_with (first
                  | (refine wpList_load_row rfl 57 _ rfl (w.heap.size + 1) rfl 57 _ (0, 0) _ H27.out.hX Tryz.underlying57 rfl (secC_size _ _ _ _ _ _) ?_)
                  | (refine wpList_store_row rfl 57 _ _ rfl w.heap.size _ rfl rfl 57 secZ H27.out.hR (secC_size _ _ _ _ _ _) rfl H27.out.one ?_))
                exact bodyPost_ret (results_cell_row rfl _ _ w.heap.size 57 _ (0, 0) _ rfl (setRow_heap _ _ _ _ _ _ H27.out.hR) Tryz.underlying57 rfl (secC_size _ _ _ _ _ _)) rfl (H27.out.done hgw hSw)
            · go_wp2_with fail
              refine (if1_any g S i3 a3 b3 kv 60 w3 H3.out.cur).mono ?_
              rintro e w20 ⟨v20, rfl, hM, hno⟩
              clear hno
              obtain ⟨i20, a20, b20, h20, _, _⟩ := H3.out.moved hM
              have H20 := Lib.hid h20
              clear hM
              cases v20
              · clear h20
                go_wp2_with (first
                  | (refine wpList_load_row rfl 57 _ rfl (w.heap.size + 1) rfl 57 _ (0, 0) _ H20.out.hX Tryz.underlying57 rfl (secC_size _ _ _ _ _ _) ?_)
                  | (refine wpList_store_row rfl 57 _ _ rfl w.heap.size _ rfl rfl 57 secZ H20.out.hR (secC_size _ _ _ _ _ _) rfl H20.out.one ?_))
                exact bodyPost_ret (results_cell_row rfl _ _ w.heap.size 57 _ (0, 0) _ rfl (setRow_heap _ _ _ _ _ _ H20.out.hR) Tryz.underlying57 rfl (secC_size _ _ _ _ _ _)) rfl (H20.out.done hgw hSw)
              · have x3 := cell_hp h20.hX (j := 3) (v := .bool false) rfl
                have y3 : w20.frozen? ⟨w.heap.size + 1, 3, none⟩ = false := Lib.frozen_of_heap h20.hX 3
                have H21 := Lib.hid (h20.set3 hSw true)
                clear h20
                go_wp2_with fail
                clear x3 y3
                generalize w20.setCell ⟨w.heap.size + 1, 3, none⟩ (.bool true) = w21 at *
                refine (number24 g S i20 a20 b20 kv w21 H21.out.cur).mono ?_
                rintro e w22 ⟨n22, rfl, hM⟩
                obtain ⟨i22, a22, b22, h22, _, _⟩ := H21.out.moved hM
                have x4 := cell_hp h22.hX (j := 4) (v := .int .i64 0) rfl
                have y4 : w22.frozen? ⟨w.heap.size + 1, 4, none⟩ = false := Lib.frozen_of_heap h22.hX 4
                have H22 := Lib.hid (h22.set4 hSw n22)
                clear h22 hM
                go_wp2_with fail
                clear x4 y4
                generalize w22.setCell ⟨w.heap.size + 1, 4, none⟩ (.int .i64 n22) = w23 at *
                refine (eat_any g S i22 a22 b22 kv 46 w23 H22.out.cur).mono ?_
                rintro e w24 ⟨rfl, hM⟩
                obtain ⟨i24, a24, b24, h24, _, _⟩ := H22.out.eaten hM
                have H24 := Lib.hid h24
                clear h24 hM
                go_wp2_with fail
                refine (number24 g S i24 a24 b24 kv w24 H24.out.cur).mono ?_
                rintro e w25 ⟨n25, rfl, hM⟩
                obtain ⟨i25, a25, b25, h25, _, _⟩ := H24.out.moved hM
                have x5 := cell_hp h25.hX (j := 5) (v := .int .i64 0) rfl
                have y5 : w25.frozen? ⟨w.heap.size + 1, 5, none⟩ = false := Lib.frozen_of_heap h25.hX 5
                have H25 := Lib.hid (h25.set5 hSw n25)
                clear h25 hM
                go_wp2_with fail
                refine (fail_any g S i25 a25 b25 _ kv _ H25.out.cur).mono ?_
                rintro e w26 ⟨rfl, hC, hK⟩
                have H26 := Lib.hid (H25.out.kept hC hK (Nat.le_refl _) (fun hb => by rw [hb]; rfl))
                clear hC hK x5 y5
                generalize (b25 || n25 == 0) = b26 at *
                go_wp2_with fail
                refine (eat_any g S i25 a25 b26 kv 62 w26 H26.out.cur).mono ?_
                rintro e w27 ⟨rfl, hM⟩
                obtain ⟨i27, a27, b27, h27, _, _⟩ := H26.out.eaten hM
                have H27 := Lib.hid h27
                clear h27 hM
                go_wp2_with (first
                  | (refine wpList_load_row rfl 57 _ rfl (w.heap.size + 1) rfl 57 _ (0, 0) _ H27.out.hX Tryz.underlying57 rfl (secC_size _ _ _ _ _ _) ?_)
                  | (refine wpList_store_row rfl 57 _ _ rfl w.heap.size _ rfl rfl 57 secZ H27.out.hR (secC_size _ _ _ _ _ _) rfl H27.out.one ?_))
                exact bodyPost_ret (results_cell_row rfl _ _ w.heap.size 57 _ (0, 0) _ rfl (setRow_heap _ _ _ _ _ _ H27.out.hR) Tryz.underlying57 rfl (secC_size _ _ _ _ _ _)) rfl (H27.out.done hgw hSw)
          · have hp0' : ((p : Int) == 0) = false := by simp; omega
            have hp1 : 0 < p := by omega
            clear hp0
            have H3 := H2m
            go_wp2_with fail
            refine (what24 g S (w.heap.size + 1) i2 a2 false kv _ false true 0 0 _ H3.out.cur H3.out.hX (by omega)).mono ?_
            rintro e w4 ⟨rfl, what4, i4, a4, b4, nv4, n4, hW⟩
            have H4 := Lib.hid (H3.out.sec hW)
            clear hW
            go_wp2_with fail
            refine (eat_any g S i4 a4 b4 kv 93 w4 H4.out.cur).mono ?_
            rintro e w5 ⟨rfl, hM⟩
            obtain ⟨i5, a5, b5, h5, _, _⟩ := H4.out.eaten hM
            have H5 := Lib.hid h5
            clear h5 hM
            go_wp2_with fail
            refine (if1_any g S i5 a5 b5 kv 60 w5 H5.out.cur).mono ?_
            rintro e w20 ⟨v20, rfl, hM, hno⟩
            clear hno
            obtain ⟨i20, a20, b20, h20, _, _⟩ := H5.out.moved hM
            have H20 := Lib.hid h20
            clear hM
            cases v20
            · clear h20
              go_wp2_with (first
                | (refine wpList_load_row rfl 57 _ rfl (w.heap.size + 1) rfl 57 _ (0, 0) _ H20.out.hX Tryz.underlying57 rfl (secC_size _ _ _ _ _ _) ?_)
                | (refine wpList_store_row rfl 57 _ _ rfl w.heap.size _ rfl rfl 57 secZ H20.out.hR (secC_size _ _ _ _ _ _) rfl H20.out.one ?_))
              exact bodyPost_ret (results_cell_row rfl _ _ w.heap.size 57 _ (0, 0) _ rfl (setRow_heap _ _ _ _ _ _ H20.out.hR) Tryz.underlying57 rfl (secC_size _ _ _ _ _ _)) rfl (H20.out.done hgw hSw)
            · have x3 := cell_hp h20.hX (j := 3) (v := .bool false) rfl
              have y3 : w20.frozen? ⟨w.heap.size + 1, 3, none⟩ = false := Lib.frozen_of_heap h20.hX 3
              have H21 := Lib.hid (h20.set3 hSw true)
              clear h20
              go_wp2_with fail
              clear x3 y3
              generalize w20.setCell ⟨w.heap.size + 1, 3, none⟩ (.bool true) = w21 at *
              refine (number24 g S i20 a20 b20 kv w21 H21.out.cur).mono ?_
              rintro e w22 ⟨n22, rfl, hM⟩
              obtain ⟨i22, a22, b22, h22, _, _⟩ := H21.out.moved hM
              have x4 := cell_hp h22.hX (j := 4) (v := .int .i64 0) rfl
              have y4 : w22.frozen? ⟨w.heap.size + 1, 4, none⟩ = false := Lib.frozen_of_heap h22.hX 4
              have H22 := Lib.hid (h22.set4 hSw n22)
              clear h22 hM
              go_wp2_with fail
              clear x4 y4
              generalize w22.setCell ⟨w.heap.size + 1, 4, none⟩ (.int .i64 n22) = w23 at *
              refine (eat_any g S i22 a22 b22 kv 46 w23 H22.out.cur).mono ?_
              rintro e w24 ⟨rfl, hM⟩
              obtain ⟨i24, a24, b24, h24, _, _⟩ := H22.out.eaten hM
              have H24 := Lib.hid h24
              clear h24 hM
              go_wp2_with fail
              refine (number24 g S i24 a24 b24 kv w24 H24.out.cur).mono ?_
              rintro e w25 ⟨n25, rfl, hM⟩
              obtain ⟨i25, a25, b25, h25, _, _⟩ := H24.out.moved hM
              have x5 := cell_hp h25.hX (j := 5) (v := .int .i64 0) rfl
              have y5 : w25.frozen? ⟨w.heap.size + 1, 5, none⟩ = false := Lib.frozen_of_heap h25.hX 5
              have H25 := Lib.hid (h25.set5 hSw n25)
              clear h25 hM
              go_wp2_with fail
              refine (fail_any g S i25 a25 b25 _ kv _ H25.out.cur).mono ?_
              rintro e w26 ⟨rfl, hC, hK⟩
              have H26 := Lib.hid (H25.out.kept hC hK (Nat.le_refl _) (fun hb => by rw [hb]; rfl))
              clear hC hK x5 y5
              generalize (b25 || n25 == 0) = b26 at *
              go_wp2_with fail
              refine (eat_any g S i25 a25 b26 kv 62 w26 H26.out.cur).mono ?_
              rintro e w27 ⟨rfl, hM⟩
              obtain ⟨i27, a27, b27, h27, _, _⟩ := H26.out.eaten hM
              have H27 := Lib.hid h27
              clear h27 hM
              go_wp2_with (first
                | (refine wpList_load_row rfl 57 _ rfl (w.heap.size + 1) rfl 57 _ (0, 0) _ H27.out.hX Tryz.underlying57 rfl (secC_size _ _ _ _ _ _) ?_)
                | (refine wpList_store_row rfl 57 _ _ rfl w.heap.size _ rfl rfl 57 secZ H27.out.hR (secC_size _ _ _ _ _ _) rfl H27.out.one ?_))
              exact bodyPost_ret (results_cell_row rfl _ _ w.heap.size 57 _ (0, 0) _ rfl (setRow_heap _ _ _ _ _ _ H27.out.hR) Tryz.underlying57 rfl (secC_size _ _ _ _ _ _)) rfl (H27.out.done hgw hSw)
      · by_cases hp0 : p = 0
        · subst hp0
          go_wp2_with fail
          refine (if1_any g S i2 a2 false kv 93 _ H2m.out.cur).mono ?_
          rintro e w3 ⟨v3, rfl, hM, _⟩
          obtain ⟨i3, a3, b3, h3, _, _⟩ := H2m.out.moved hM
          have x0 := cell_hp h3.hX (j := 0) (v := .slice pA 0 pC) rfl
          have H3 := Lib.hid h3
          clear h3 hM
          cases v3
          · go_wp2_with fail
            refine (what24 g S (w.heap.size + 1) i3 a3 b3 kv _ false false 0 0 w3 H3.out.cur H3.out.hX (by omega)).mono ?_
            rintro e w4 ⟨rfl, what4, i4, a4, b4, nv4, n4, hW⟩
            have H4 := Lib.hid (H3.out.sec hW)
            clear hW
            go_wp2_with fail
            refine (eat_any g S i4 a4 b4 kv 93 w4 H4.out.cur).mono ?_
            rintro e w5 ⟨rfl, hM⟩
            obtain ⟨i5, a5, b5, h5, _, _⟩ := H4.out.eaten hM
            have H5 := Lib.hid h5
            clear h5 hM
            go_wp2_with fail
            refine (if1_any g S i5 a5 b5 kv 60 w5 H5.out.cur).mono ?_
            rintro e w20 ⟨v20, rfl, hM, hno⟩
            clear hno
            obtain ⟨i20, a20, b20, h20, _, _⟩ := H5.out.moved hM
            have H20 := Lib.hid h20
            clear hM
            cases v20
            · clear h20
              go_wp2_with (first
                | (refine wpList_load_row rfl 57 _ rfl (w.heap.size + 1) rfl 57 _ (0, 0) _ H20.out.hX Tryz.underlying57 rfl (secC_size _ _ _ _ _ _) ?_)
                | (refine wpList_store_row rfl 57 _ _ rfl w.heap.size _ rfl rfl 57 secZ H20.out.hR (secC_size _ _ _ _ _ _) rfl H20.out.one ?_))
              exact bodyPost_ret (results_cell_row rfl _ _ w.heap.size 57 _ (0, 0) _ rfl (setRow_heap _ _ _ _ _ _ H20.out.hR) Tryz.underlying57 rfl (secC_size _ _ _ _ _ _)) rfl (H20.out.done hgw hSw)
            · have x3 := cell_hp h20.hX (j := 3) (v := .bool false) rfl
              have y3 : w20.frozen? ⟨w.heap.size + 1, 3, none⟩ = false := Lib.frozen_of_heap h20.hX 3
              have H21 := Lib.hid (h20.set3 hSw true)
              clear h20
              go_wp2_with fail
              clear x3 y3
              generalize w20.setCell ⟨w.heap.size + 1, 3, none⟩ (.bool true) = w21 at *
              refine (number24 g S i20 a20 b20 kv w21 H21.out.cur).mono ?_
              rintro e w22 ⟨n22, rfl, hM⟩
              obtain ⟨i22, a22, b22, h22, _, _⟩ := H21.out.moved hM
              have x4 := cell_hp h22.hX (j := 4) (v := .int .i64 0) rfl
              have y4 : w22.frozen? ⟨w.heap.size + 1, 4, none⟩ = false := Lib.frozen_of_heap h22.hX 4
              have H22 := Lib.hid (h22.set4 hSw n22)
              clear h22 hM
              go_wp2_with fail
              clear x4 y4
              generalize w22.setCell ⟨w.heap.size + 1, 4, none⟩ (.int .i64 n22) = w23 at *
              refine (eat_any g S i22 a22 b22 kv 46 w23 H22.out.cur).mono ?_
              rintro e w24 ⟨rfl, hM⟩
              obtain ⟨i24, a24, b24, h24, _, _⟩ := H22.out.eaten hM
              have H24 := Lib.hid h24
              clear h24 hM
              go_wp2_with fail
              refine (number24 g S i24 a24 b24 kv w24 H24.out.cur).mono ?_
              rintro e w25 ⟨n25, rfl, hM⟩
              obtain ⟨i25, a25, b25, h25, _, _⟩ := H24.out.moved hM
              have x5 := cell_hp h25.hX (j := 5) (v := .int .i64 0) rfl
              have y5 : w25.frozen? ⟨w.heap.size + 1, 5, none⟩ = false := Lib.frozen_of_heap h25.hX 5
              have H25 := Lib.hid (h25.set5 hSw n25)
              clear h25 hM
              go_wp2_with fail
              refine (fail_any g S i25 a25 b25 _ kv _ H25.out.cur).mono ?_
              rintro e w26 ⟨rfl, hC, hK⟩
              have H26 := Lib.hid (H25.out.kept hC hK (Nat.le_refl _) (fun hb => by rw [hb]; rfl))
              clear hC hK x5 y5
              generalize (b25 || n25 == 0) = b26 at *
              go_wp2_with fail
              refine (eat_any g S i25 a25 b26 kv 62 w26 H26.out.cur).mono ?_
              rintro e w27 ⟨rfl, hM⟩
              obtain ⟨i27, a27, b27, h27, _, _⟩ := H26.out.eaten hM
              have H27 := Lib.hid h27
              clear h27 hM
              go_wp2_with (first
                | (refine wpList_load_row rfl 57 _ rfl (w.heap.size + 1) rfl 57 _ (0, 0) _ H27.out.hX Tryz.underlying57 rfl (secC_size _ _ _ _ _ _) ?_)
                | (refine wpList_store_row rfl 57 _ _ rfl w.heap.size _ rfl rfl 57 secZ H27.out.hR (secC_size _ _ _ _ _ _) rfl H27.out.one ?_))
              exact bodyPost_ret (results_cell_row rfl _ _ w.heap.size 57 _ (0, 0) _ rfl (setRow_heap _ _ _ _ _ _ H27.out.hR) Tryz.underlying57 rfl (secC_size _ _ _ _ _ _)) rfl (H27.out.done hgw hSw)
          · go_wp2_with fail
            refine (if1_any g S i3 a3 b3 kv 60 w3 H3.out.cur).mono ?_
            rintro e w20 ⟨v20, rfl, hM, hno⟩
            clear hno
            obtain ⟨i20, a20, b20, h20, _, _⟩ := H3.out.moved hM
            have H20 := Lib.hid h20
            clear hM
            cases v20
            · clear h20
              go_wp2_with (first
                | (refine wpList_load_row rfl 57 _ rfl (w.heap.size + 1) rfl 57 _ (0, 0) _ H20.out.hX Tryz.underlying57 rfl (secC_size _ _ _ _ _ _) ?_)
                | (refine wpList_store_row rfl 57 _ _ rfl w.heap.size _ rfl rfl 57 secZ H20.out.hR (secC_size _ _ _ _ _ _) rfl H20.out.one ?_))
              exact bodyPost_ret (results_cell_row rfl _ _ w.heap.size 57 _ (0, 0) _ rfl (setRow_heap _ _ _ _ _ _ H20.out.hR) Tryz.underlying57 rfl (secC_size _ _ _ _ _ _)) rfl (H20.out.done hgw hSw)
            · have x3 := cell_hp h20.hX (j := 3) (v := .bool false) rfl
              have y3 : w20.frozen? ⟨w.heap.size + 1, 3, none⟩ = false := Lib.frozen_of_heap h20.hX 3
              have H21 := Lib.hid (h20.set3 hSw true)
              clear h20
              go_wp2_with fail
              clear x3 y3
              generalize w20.setCell ⟨w.heap.size + 1, 3, none⟩ (.bool true) = w21 at *
              refine (number24 g S i20 a20 b20 kv w21 H21.out.cur).mono ?_
              rintro e w22 ⟨n22, rfl, hM⟩
              obtain ⟨i22, a22, b22, h22, _, _⟩ := H21.out.moved hM
              have x4 := cell_hp h22.hX (j := 4) (v := .int .i64 0) rfl
              have y4 : w22.frozen? ⟨w.heap.size + 1, 4, none⟩ = false := Lib.frozen_of_heap h22.hX 4
              have H22 := Lib.hid (h22.set4 hSw n22)
              clear h22 hM
              go_wp2_with fail
              clear x4 y4
              generalize w22.setCell ⟨w.heap.size + 1, 4, none⟩ (.int .i64 n22) = w23 at *
              refine (eat_any g S i22 a22 b22 kv 46 w23 H22.out.cur).mono ?_
              rintro e w24 ⟨rfl, hM⟩
              obtain ⟨i24, a24, b24, h24, _, _⟩ := H22.out.eaten hM
              have H24 := Lib.hid h24
              clear h24 hM
              go_wp2_with fail
              refine (number24 g S i24 a24 b24 kv w24 H24.out.cur).mono ?_
              rintro e w25 ⟨n25, rfl, hM⟩
              obtain ⟨i25, a25, b25, h25, _, _⟩ := H24.out.moved hM
              have x5 := cell_hp h25.hX (j := 5) (v := .int .i64 0) rfl
              have y5 : w25.frozen? ⟨w.heap.size + 1, 5, none⟩ = false := Lib.frozen_of_heap h25.hX 5
              have H25 := Lib.hid (h25.set5 hSw n25)
              clear h25 hM
              go_wp2_with fail
              refine (fail_any g S i25 a25 b25 _ kv _ H25.out.cur).mono ?_
              rintro e w26 ⟨rfl, hC, hK⟩
              have H26 := Lib.hid (H25.out.kept hC hK (Nat.le_refl _) (fun hb => by rw [hb]; rfl))
              clear hC hK x5 y5
              generalize (b25 || n25 == 0) = b26 at *
              go_wp2_with fail
              refine (eat_any g S i25 a25 b26 kv 62 w26 H26.out.cur).mono ?_
              rintro e w27 ⟨rfl, hM⟩
              obtain ⟨i27, a27, b27, h27, _, _⟩ := H26.out.eaten hM
              have H27 := Lib.hid h27
              clear h27 hM
              go_wp2_with (first
                | (refine wpList_load_row rfl 57 _ rfl (w.heap.size + 1) rfl 57 _ (0, 0) _ H27.out.hX Tryz.underlying57 rfl (secC_size _ _ _ _ _ _) ?_)
                | (refine wpList_store_row rfl 57 _ _ rfl w.heap.size _ rfl rfl 57 secZ H27.out.hR (secC_size _ _ _ _ _ _) rfl H27.out.one ?_))
              exact bodyPost_ret (results_cell_row rfl _ _ w.heap.size 57 _ (0, 0) _ rfl (setRow_heap _ _ _ _ _ _ H27.out.hR) Tryz.underlying57 rfl (secC_size _ _ _ _ _ _)) rfl (H27.out.done hgw hSw)
        · have hp0' : ((p : Int) == 0) = false := by simp; omega
          have hp1 : 0 < p := by omega
          clear hp0
          have H3 := H2m
          go_wp2_with fail
          refine (what24 g S (w.heap.size + 1) i2 a2 false kv _ false true 0 0 _ H3.out.cur H3.out.hX (by omega)).mono ?_
          rintro e w4 ⟨rfl, what4, i4, a4, b4, nv4, n4, hW⟩
          have H4 := Lib.hid (H3.out.sec hW)
          clear hW
          go_wp2_with fail
          refine (eat_any g S i4 a4 b4 kv 93 w4 H4.out.cur).mono ?_
          rintro e w5 ⟨rfl, hM⟩
          obtain ⟨i5, a5, b5, h5, _, _⟩ := H4.out.eaten hM
          have H5 := Lib.hid h5
          clear h5 hM
          go_wp2_with fail
          refine (if1_any g S i5 a5 b5 kv 60 w5 H5.out.cur).mono ?_
          rintro e w20 ⟨v20, rfl, hM, hno⟩
          clear hno
          obtain ⟨i20, a20, b20, h20, _, _⟩ := H5.out.moved hM
          have H20 := Lib.hid h20
          clear hM
          cases v20
          · clear h20
            go_wp2_with (first
              | (refine wpList_load_row rfl 57 _ rfl (w.heap.size + 1) rfl 57 _ (0, 0) _ H20.out.hX Tryz.underlying57 rfl (secC_size _ _ _ _ _ _) ?_)
              | (refine wpList_store_row rfl 57 _ _ rfl w.heap.size _ rfl rfl 57 secZ H20.out.hR (secC_size _ _ _ _ _ _) rfl H20.out.one ?_))
            exact bodyPost_ret (results_cell_row rfl _ _ w.heap.size 57 _ (0, 0) _ rfl (setRow_heap _ _ _ _ _ _ H20.out.hR) Tryz.underlying57 rfl (secC_size _ _ _ _ _ _)) rfl (H20.out.done hgw hSw)
          · have x3 := cell_hp h20.hX (j := 3) (v := .bool false) rfl
            have y3 : w20.frozen? ⟨w.heap.size + 1, 3, none⟩ = false := Lib.frozen_of_heap h20.hX 3
            have H21 := Lib.hid (h20.set3 hSw true)
            clear h20
            go_wp2_with fail
            clear x3 y3
            generalize w20.setCell ⟨w.heap.size + 1, 3, none⟩ (.bool true) = w21 at *
            refine (number24 g S i20 a20 b20 kv w21 H21.out.cur).mono ?_
            rintro e w22 ⟨n22, rfl, hM⟩
            obtain ⟨i22, a22, b22, h22, _, _⟩ := H21.out.moved hM
            have x4 := cell_hp h22.hX (j := 4) (v := .int .i64 0) rfl
            have y4 : w22.frozen? ⟨w.heap.size + 1, 4, none⟩ = false := Lib.frozen_of_heap h22.hX 4
            have H22 := Lib.hid (h22.set4 hSw n22)
            clear h22 hM
            go_wp2_with fail
            clear x4 y4
            generalize w22.setCell ⟨w.heap.size + 1, 4, none⟩ (.int .i64 n22) = w23 at *
            refine (eat_any g S i22 a22 b22 kv 46 w23 H22.out.cur).mono ?_
            rintro e w24 ⟨rfl, hM⟩
            obtain ⟨i24, a24, b24, h24, _, _⟩ := H22.out.eaten hM
            have H24 := Lib.hid h24
            clear h24 hM
            go_wp2_with fail
            refine (number24 g S i24 a24 b24 kv w24 H24.out.cur).mono ?_
            rintro e w25 ⟨n25, rfl, hM⟩
            obtain ⟨i25, a25, b25, h25, _, _⟩ := H24.out.moved hM
            have x5 := cell_hp h25.hX (j := 5) (v := .int .i64 0) rfl
            have y5 : w25.frozen? ⟨w.heap.size + 1, 5, none⟩ = false := Lib.frozen_of_heap h25.hX 5
            have H25 := Lib.hid (h25.set5 hSw n25)
            clear h25 hM
            go_wp2_with fail
            refine (fail_any g S i25 a25 b25 _ kv _ H25.out.cur).mono ?_
            rintro e w26 ⟨rfl, hC, hK⟩
            have H26 := Lib.hid (H25.out.kept hC hK (Nat.le_refl _) (fun hb => by rw [hb]; rfl))
            clear hC hK x5 y5
            generalize (b25 || n25 == 0) = b26 at *
            go_wp2_with fail
            refine (eat_any g S i25 a25 b26 kv 62 w26 H26.out.cur).mono ?_
            rintro e w27 ⟨rfl, hM⟩
            obtain ⟨i27, a27, b27, h27, _, _⟩ := H26.out.eaten hM
            have H27 := Lib.hid h27
            clear h27 hM
            go_wp2_with (first
              | (refine wpList_load_row rfl 57 _ rfl (w.heap.size + 1) rfl 57 _ (0, 0) _ H27.out.hX Tryz.underlying57 rfl (secC_size _ _ _ _ _ _) ?_)
              | (refine wpList_store_row rfl 57 _ _ rfl w.heap.size _ rfl rfl 57 secZ H27.out.hR (secC_size _ _ _ _ _ _) rfl H27.out.one ?_))
            exact bodyPost_ret (results_cell_row rfl _ _ w.heap.size 57 _ (0, 0) _ rfl (setRow_heap _ _ _ _ _ _ H27.out.hR) Tryz.underlying57 rfl (secC_size _ _ _ _ _ _)) rfl (H27.out.done hgw hSw)
    · go_wp2_with fail
      go_wp2_with fail
      refine (if1_any g S i2 a2 true kv 60 wr H2.out.cur).mono ?_
      rintro e w20 ⟨v20, rfl, hM, hno⟩
      clear hno
      obtain ⟨i20, a20, b20, h20, _, _⟩ := H2.out.moved hM
      have H20 := Lib.hid h20
      clear hM
      cases v20
      · clear h20
        go_wp2_with (first
          | (refine wpList_load_row rfl 57 _ rfl (w.heap.size + 1) rfl 57 _ (0, 0) _ H20.out.hX Tryz.underlying57 rfl (secC_size _ _ _ _ _ _) ?_)
          | (refine wpList_store_row rfl 57 _ _ rfl w.heap.size _ rfl rfl 57 secZ H20.out.hR (secC_size _ _ _ _ _ _) rfl H20.out.one ?_))
        exact bodyPost_ret (results_cell_row rfl _ _ w.heap.size 57 _ (0, 0) _ rfl (setRow_heap _ _ _ _ _ _ H20.out.hR) Tryz.underlying57 rfl (secC_size _ _ _ _ _ _)) rfl (H20.out.done hgw hSw)
      · have x3 := cell_hp h20.hX (j := 3) (v := .bool false) rfl
        have y3 : w20.frozen? ⟨w.heap.size + 1, 3, none⟩ = false := Lib.frozen_of_heap h20.hX 3
        have H21 := Lib.hid (h20.set3 hSw true)
        clear h20
        go_wp2_with fail
        clear x3 y3
        generalize w20.setCell ⟨w.heap.size + 1, 3, none⟩ (.bool true) = w21 at *
        refine (number24 g S i20 a20 b20 kv w21 H21.out.cur).mono ?_
        rintro e w22 ⟨n22, rfl, hM⟩
        obtain ⟨i22, a22, b22, h22, _, _⟩ := H21.out.moved hM
        have x4 := cell_hp h22.hX (j := 4) (v := .int .i64 0) rfl
        have y4 : w22.frozen? ⟨w.heap.size + 1, 4, none⟩ = false := Lib.frozen_of_heap h22.hX 4
        have H22 := Lib.hid (h22.set4 hSw n22)
        clear h22 hM
        go_wp2_with fail
        clear x4 y4
        generalize w22.setCell ⟨w.heap.size + 1, 4, none⟩ (.int .i64 n22) = w23 at *
        refine (eat_any g S i22 a22 b22 kv 46 w23 H22.out.cur).mono ?_
        rintro e w24 ⟨rfl, hM⟩
        obtain ⟨i24, a24, b24, h24, _, _⟩ := H22.out.eaten hM
        have H24 := Lib.hid h24
        clear h24 hM
        go_wp2_with fail
        refine (number24 g S i24 a24 b24 kv w24 H24.out.cur).mono ?_
        rintro e w25 ⟨n25, rfl, hM⟩
        obtain ⟨i25, a25, b25, h25, _, _⟩ := H24.out.moved hM
        have x5 := cell_hp h25.hX (j := 5) (v := .int .i64 0) rfl
        have y5 : w25.frozen? ⟨w.heap.size + 1, 5, none⟩ = false := Lib.frozen_of_heap h25.hX 5
        have H25 := Lib.hid (h25.set5 hSw n25)
        clear h25 hM
        go_wp2_with fail
        refine (fail_any g S i25 a25 b25 _ kv _ H25.out.cur).mono ?_
        rintro e w26 ⟨rfl, hC, hK⟩
        have H26 := Lib.hid (H25.out.kept hC hK (Nat.le_refl _) (fun hb => by rw [hb]; rfl))
        clear hC hK x5 y5
        generalize (b25 || n25 == 0) = b26 at *
        go_wp2_with fail
        refine (eat_any g S i25 a25 b26 kv 62 w26 H26.out.cur).mono ?_
        rintro e w27 ⟨rfl, hM⟩
        obtain ⟨i27, a27, b27, h27, _, _⟩ := H26.out.eaten hM
        have H27 := Lib.hid h27
        clear h27 hM
        go_wp2_with (first
          | (refine wpList_load_row rfl 57 _ rfl (w.heap.size + 1) rfl 57 _ (0, 0) _ H27.out.hX Tryz.underlying57 rfl (secC_size _ _ _ _ _ _) ?_)
          | (refine wpList_store_row rfl 57 _ _ rfl w.heap.size _ rfl rfl 57 secZ H27.out.hR (secC_size _ _ _ _ _ _) rfl H27.out.one ?_))
        exact bodyPost_ret (results_cell_row rfl _ _ w.heap.size 57 _ (0, 0) _ rfl (setRow_heap _ _ _ _ _ _ H27.out.hR) Tryz.underlying57 rfl (secC_size _ _ _ _ _ _)) rfl (H27.out.done hgw hSw)

end Go.Proofs.YtjamgkcmpcnfpaaGreatDoor

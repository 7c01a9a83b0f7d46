/-
  The cursor's 'store'.
-/
import Derived.Test.YtjamgkcmpcnfpaaGreatDoorS19
set_option linter.unusedVariables false
set_option linter.unusedSimpArgs false

namespace Go.Proofs.YtjamgkcmpcnfpaaGreatDoor
open Go.RowKit

/-- A command that 'store' leaves. -/
def StoreQ (tag : ByteArray) (op : Int) (uid : Bool) (cs : Array Value) (sv : Value) : Prop :=
  ∃ (mode : Int) (q : Bool) (fl : Int), cs = cmdT tag op uid ⟨#[]⟩ ⟨#[]⟩ sv mode q fl 0 0 ⟨#[]⟩ (.slice none 0 0) (.slice none 0 0) (.slice none 0 0)

/-- What holds ahead of a round. -/
def StoreR (g X : Nat) (S : Src) (kv : Value) (r : Nat) (bad : Bool) (w : World) (tag : ByteArray) (op : Int) (uid : Bool) (sv : Value) (n : Nat) (mode : Int) (q : Bool) (W : World) : Prop :=
  ∃ (i a : Nat) (b : Bool) (fl : Int), TSt g X S kv r bad w (cmdT tag op uid ⟨#[]⟩ ⟨#[]⟩ sv mode q fl 0 0 ⟨#[]⟩ (.slice none 0 0) (.slice none 0 0) (.slice none 0 0)) sv n i a b W

set_option maxHeartbeats 32000000 in
set_option maxRecDepth 100000 in
theorem store24 (g X : Nat) (S : Src) (i a : Nat) (bad : Bool) (kv : Value) (tag : ByteArray) (op : Int) (uid : Bool) (w : World) (h : Cur g S w i a bad kv) (hX : w.heap[X]? = some (.cells (cmd0 tag op uid) 31 (0, 0))) (hXS : X ≠ S.b) :
    Calls Tryz.prog 72 #[CC g, .pointer (some ⟨X, 0, none⟩)] w (FillP g X S kv (left S i a) bad w (StoreQ tag op uid)) := by
  have H0 := Lib.hid (TSt.start h hX)
  generalize left S i a = r at *
  clear h hX
  go_enter Tryz.func72, Tryz.ntmps72
  go_wp2_with fail
  refine (set24 g S i a bad kv w H0.out.cur).mono ?_
  intro e w1 hM
  obtain ⟨sA, n, sC, i1, a1, b1, rfl, h1⟩ := H0.out.set hM
  have x5 := cell_hp h1.hX (j := 5) (v := .slice none 0 0) rfl
  have y5 : w1.frozen? ⟨X, 5, none⟩ = false := Lib.frozen_of_heap h1.hX 5
  have H1 := Lib.hid (h1.setX hXS 5 (.slice sA n sC) rfl)
  clear h1 hM H0
  go_wp2_with fail
  clear x5 y5
  generalize w1.setCell ⟨X, 5, none⟩ (.slice sA n sC) = w2 at *
  refine (eat_any g S i1 a1 b1 kv 32 w2 H1.out.cur).mono ?_
  rintro e w3 ⟨rfl, hM⟩
  obtain ⟨i3, a3, b3, h3, _, _⟩ := H1.out.eaten hM
  have H3 := Lib.hid h3
  clear h3 hM H1
  go_wp2_with fail
  refine (if1_any g S i3 a3 b3 kv 43 w3 H3.out.cur).mono ?_
  rintro e w4 ⟨v4, rfl, hM, hno⟩
  clear hno
  obtain ⟨i4, a4, b4, h4, _, _⟩ := H3.out.moved hM
  have H4 := Lib.hid h4
  clear h4 hM H3
  cases v4
  · go_wp2_with fail
    refine (if1_any g S i4 a4 b4 kv 45 w4 H4.out.cur).mono ?_
    rintro e w5 ⟨v5, rfl, hM, hno⟩
    clear hno
    obtain ⟨i5, a5, b5, h5, _, _⟩ := H4.out.moved hM
    have H5 := Lib.hid h5
    clear h5 hM H4
    cases v5
    · go_wp2_with fail
      refine (name24 g S i5 a5 b5 kv ⟨#[]⟩ w5 H5.out.cur (by decide)).mono ?_
      rintro e w10 ⟨s, rfl, hs, hM, hno⟩
      clear hno hs
      obtain ⟨i10, a10, b10, h10, _, _⟩ := H5.out.moved hM
      have x7 := cell_hp h10.hX (j := 7) (v := .bool false) rfl
      have y7 : w10.frozen? ⟨X, 7, none⟩ = false := Lib.frozen_of_heap h10.hX 7
      have H10 := Lib.hid h10
      clear h10 hM
      by_cases tq : (s.toList == [102, 108, 97, 103, 115, 46, 115, 105, 108, 101, 110, 116]) = true
      · have tf : (s.toList == [102, 108, 97, 103, 115]) = false := by rw [eq_of_beq tq]; rfl
        have h11 := H10.out.setX hXS 7 (.bool true) rfl
        have x11 := cell_hp h11.hX (j := 7) (v := .bool true) rfl
        have H11 := Lib.hid h11
        clear h11
        go_wp2_with fail
        refine (fail_any g S i10 a10 b10 _ kv _ H11.out.cur).mono ?_
        rintro e w12 ⟨rfl, hC, hK⟩
        obtain ⟨b12, h12⟩ := H11.out.failed hC hK
        have H12 := Lib.hid h12
        clear hC hK h12 x11 x7 y7 tf tq
        go_wp2_with fail
        refine (eat_any g S i10 a10 b12 kv 32 w12 H12.out.cur).mono ?_
        rintro e w20 ⟨rfl, hM⟩
        obtain ⟨i20, a20, b20, h20, _, _⟩ := H12.out.eaten hM
        have H20 := Lib.hid h20
        clear h20 hM
        go_wp2_with fail
        refine (if1_any g S i20 a20 b20 kv 40 w20 H20.out.cur).mono ?_
        rintro e w21 ⟨v21, rfl, hM, hno⟩
        clear hno
        obtain ⟨i21, a21, b21, h21, _, _⟩ := H20.out.moved hM
        have H21 := Lib.hid h21
        clear h21 hM
        cases v21
        · go_wp2_with fail
          go_loopw [] (fun wr => StoreR g X S kv r bad w tag op uid (.slice sA n sC) n 0 true wr) (fun wr => togo g S wr)
          case atStart => exact ⟨_, _, _, _, H21.out⟩
          case round =>
            obtain ⟨i22, a22, b22, fl, h22⟩ := hrel
            have c3 := h22.cur.c3
            have x8 := cell_hp h22.hX (j := 8) (v := .int .i64 fl) rfl
            have H22 := Lib.hid h22
            clear h22
            cases b22
            · go_wp2_with fail
              have H22d := Lib.hid H22.out.drew
              go_region_law (first
                | (refine step_call rfl 105 #[CC g] (by go_simp) (flag24 g S i22 a22 false kv _ H22d.out.cur) ?_; rintro e w23 ⟨m23, rfl, hM⟩; refine ⟨_, rfl, ?_⟩; obtain ⟨i23, a23, b23, h23, hb23, hl23⟩ := H22d.out.moved hM; have x23 := cell_hp h23.hX (j := 8) (v := .int .i64 fl) rfl; have y23 : w23.frozen? ⟨X, 8, none⟩ = false := Lib.frozen_of_heap h23.hX 8; have H23 := Lib.hid h23; clear h23 hM))
              all_goals
                go_wp2_with fail
                have h24 := H23.out.setX hXS 8 (.int .i64 (bits BinOp.or IntKind.i64 fl m23)) rfl
                clear x23 y23 x8 c3
                generalize bits BinOp.or IntKind.i64 fl m23 = fl2 at *
                generalize w23.setCell ⟨X, 8, none⟩ (.int .i64 fl2) = w24 at *
                have H24 := Lib.hid h24
                clear h24
                refine (cover_any g S i23 a23 b23 kv w24 H24.out.cur).mono ?_
                rintro e w25 ⟨v25, rfl, m25, rfl⟩
                have H25 := Lib.hid (H24.out.drewN m25)
                cases v25
                · go_wp2_with fail
                  refine (eat_any g S i23 a23 b23 kv 32 _ H25.out.cur).mono ?_
                  rintro e w26 ⟨rfl, hM⟩
                  obtain ⟨i26, a26, b26, h26, hb26, hl26⟩ := H25.out.eaten hM
                  have H26 := Lib.hid h26
                  clear h26 hM
                  go_wp2_with fail
                  go_roundw
                  case rel => exact ⟨_, _, _, _, H26.out⟩
                  case measure => exact togo_lt H22.out.cur H26.out.cur (hl26.imp id (by omega))
                · go_wp2_with fail
                  first
                  | (go_end0; exact ⟨rfl, _, _, _, _, _, _, H25.out, 0, true, fl2, rfl⟩)
                  | (refine bodyPost_ret (results_none rfl _ _ _) rfl ?_; exact ⟨rfl, _, _, _, _, _, _, H25.out, 0, true, fl2, rfl⟩)
            · go_wp2_with fail
              first
              | (go_end0; exact ⟨rfl, _, _, _, _, _, _, H22.out, 0, true, fl, rfl⟩)
              | (refine bodyPost_ret (results_none rfl _ _ _) rfl ?_; exact ⟨rfl, _, _, _, _, _, _, H22.out, 0, true, fl, rfl⟩)
        · go_wp2_with fail
          refine (flags24 g S i21 a21 b21 kv w21 H21.out.cur).mono ?_
          rintro e w22 ⟨n22, rfl, hM⟩
          obtain ⟨i22, a22, b22, h22, _, _⟩ := H21.out.moved hM
          have x8 := cell_hp h22.hX (j := 8) (v := .int .i64 0) rfl
          have y8 : w22.frozen? ⟨X, 8, none⟩ = false := Lib.frozen_of_heap h22.hX 8
          have H22 := Lib.hid (h22.setX hXS 8 (.int .i64 n22) rfl)
          clear h22 hM
          go_wp2_with fail
          first
          | (go_end0; exact ⟨rfl, _, _, _, _, _, _, H22.out, 0, true, n22, rfl⟩)
          | (refine bodyPost_ret (results_none rfl _ _ _) rfl ?_; exact ⟨rfl, _, _, _, _, _, _, H22.out, 0, true, n22, rfl⟩)
      · rw [Bool.not_eq_true] at tq
        have h11 := H10.out.setX hXS 7 (.bool false) rfl
        have x11 := cell_hp h11.hX (j := 7) (v := .bool false) rfl
        have H11 := Lib.hid h11
        clear h11
        by_cases tf : (s.toList == [102, 108, 97, 103, 115]) = true
        · have tf' := tf
          go_wp2_with fail
          refine (fail_any g S i10 a10 b10 _ kv _ H11.out.cur).mono ?_
          rintro e w12 ⟨rfl, hC, hK⟩
          obtain ⟨b12, h12⟩ := H11.out.failed hC hK
          have H12 := Lib.hid h12
          clear hC hK h12 x11 x7 y7 tf tf' tq
          go_wp2_with fail
          refine (eat_any g S i10 a10 b12 kv 32 w12 H12.out.cur).mono ?_
          rintro e w20 ⟨rfl, hM⟩
          obtain ⟨i20, a20, b20, h20, _, _⟩ := H12.out.eaten hM
          have H20 := Lib.hid h20
          clear h20 hM
          go_wp2_with fail
          refine (if1_any g S i20 a20 b20 kv 40 w20 H20.out.cur).mono ?_
          rintro e w21 ⟨v21, rfl, hM, hno⟩
          clear hno
          obtain ⟨i21, a21, b21, h21, _, _⟩ := H20.out.moved hM
          have H21 := Lib.hid h21
          clear h21 hM
          cases v21
          · go_wp2_with fail
            go_loopw [] (fun wr => StoreR g X S kv r bad w tag op uid (.slice sA n sC) n 0 false wr) (fun wr => togo g S wr)
            case atStart => exact ⟨_, _, _, _, H21.out⟩
            case round =>
              obtain ⟨i22, a22, b22, fl, h22⟩ := hrel
              have c3 := h22.cur.c3
              have x8 := cell_hp h22.hX (j := 8) (v := .int .i64 fl) rfl
              have H22 := Lib.hid h22
              clear h22
              cases b22
              · go_wp2_with fail
                have H22d := Lib.hid H22.out.drew
                go_region_law (first
                  | (refine step_call rfl 105 #[CC g] (by go_simp) (flag24 g S i22 a22 false kv _ H22d.out.cur) ?_; rintro e w23 ⟨m23, rfl, hM⟩; refine ⟨_, rfl, ?_⟩; obtain ⟨i23, a23, b23, h23, hb23, hl23⟩ := H22d.out.moved hM; have x23 := cell_hp h23.hX (j := 8) (v := .int .i64 fl) rfl; have y23 : w23.frozen? ⟨X, 8, none⟩ = false := Lib.frozen_of_heap h23.hX 8; have H23 := Lib.hid h23; clear h23 hM))
                all_goals
                  go_wp2_with fail
                  have h24 := H23.out.setX hXS 8 (.int .i64 (bits BinOp.or IntKind.i64 fl m23)) rfl
                  clear x23 y23 x8 c3
                  generalize bits BinOp.or IntKind.i64 fl m23 = fl2 at *
                  generalize w23.setCell ⟨X, 8, none⟩ (.int .i64 fl2) = w24 at *
                  have H24 := Lib.hid h24
                  clear h24
                  refine (cover_any g S i23 a23 b23 kv w24 H24.out.cur).mono ?_
                  rintro e w25 ⟨v25, rfl, m25, rfl⟩
                  have H25 := Lib.hid (H24.out.drewN m25)
                  cases v25
                  · go_wp2_with fail
                    refine (eat_any g S i23 a23 b23 kv 32 _ H25.out.cur).mono ?_
                    rintro e w26 ⟨rfl, hM⟩
                    obtain ⟨i26, a26, b26, h26, hb26, hl26⟩ := H25.out.eaten hM
                    have H26 := Lib.hid h26
                    clear h26 hM
                    go_wp2_with fail
                    go_roundw
                    case rel => exact ⟨_, _, _, _, H26.out⟩
                    case measure => exact togo_lt H22.out.cur H26.out.cur (hl26.imp id (by omega))
                  · go_wp2_with fail
                    first
                    | (go_end0; exact ⟨rfl, _, _, _, _, _, _, H25.out, 0, false, fl2, rfl⟩)
                    | (refine bodyPost_ret (results_none rfl _ _ _) rfl ?_; exact ⟨rfl, _, _, _, _, _, _, H25.out, 0, false, fl2, rfl⟩)
              · go_wp2_with fail
                first
                | (go_end0; exact ⟨rfl, _, _, _, _, _, _, H22.out, 0, false, fl, rfl⟩)
                | (refine bodyPost_ret (results_none rfl _ _ _) rfl ?_; exact ⟨rfl, _, _, _, _, _, _, H22.out, 0, false, fl, rfl⟩)
          · go_wp2_with fail
            refine (flags24 g S i21 a21 b21 kv w21 H21.out.cur).mono ?_
            rintro e w22 ⟨n22, rfl, hM⟩
            obtain ⟨i22, a22, b22, h22, _, _⟩ := H21.out.moved hM
            have x8 := cell_hp h22.hX (j := 8) (v := .int .i64 0) rfl
            have y8 : w22.frozen? ⟨X, 8, none⟩ = false := Lib.frozen_of_heap h22.hX 8
            have H22 := Lib.hid (h22.setX hXS 8 (.int .i64 n22) rfl)
            clear h22 hM
            go_wp2_with fail
            first
            | (go_end0; exact ⟨rfl, _, _, _, _, _, _, H22.out, 0, false, n22, rfl⟩)
            | (refine bodyPost_ret (results_none rfl _ _ _) rfl ?_; exact ⟨rfl, _, _, _, _, _, _, H22.out, 0, false, n22, rfl⟩)
        · rw [Bool.not_eq_true] at tf
          have tf' := tf
          go_wp2_with fail
          refine (fail_any g S i10 a10 b10 _ kv _ H11.out.cur).mono ?_
          rintro e w12 ⟨rfl, hC, hK⟩
          obtain ⟨b12, h12⟩ := H11.out.failed hC hK
          have H12 := Lib.hid h12
          clear hC hK h12 x11 x7 y7 tf tf' tq
          go_wp2_with fail
          refine (eat_any g S i10 a10 b12 kv 32 w12 H12.out.cur).mono ?_
          rintro e w20 ⟨rfl, hM⟩
          obtain ⟨i20, a20, b20, h20, _, _⟩ := H12.out.eaten hM
          have H20 := Lib.hid h20
          clear h20 hM
          go_wp2_with fail
          refine (if1_any g S i20 a20 b20 kv 40 w20 H20.out.cur).mono ?_
          rintro e w21 ⟨v21, rfl, hM, hno⟩
          clear hno
          obtain ⟨i21, a21, b21, h21, _, _⟩ := H20.out.moved hM
          have H21 := Lib.hid h21
          clear h21 hM
          cases v21
          · go_wp2_with fail
            go_loopw [] (fun wr => StoreR g X S kv r bad w tag op uid (.slice sA n sC) n 0 false wr) (fun wr => togo g S wr)
            case atStart => exact ⟨_, _, _, _, H21.out⟩
            case round =>
              obtain ⟨i22, a22, b22, fl, h22⟩ := hrel
              have c3 := h22.cur.c3
              have x8 := cell_hp h22.hX (j := 8) (v := .int .i64 fl) rfl
              have H22 := Lib.hid h22
              clear h22
              cases b22
              · go_wp2_with fail
                have H22d := Lib.hid H22.out.drew
                go_region_law (first
                  | (refine step_call rfl 105 #[CC g] (by go_simp) (flag24 g S i22 a22 false kv _ H22d.out.cur) ?_; rintro e w23 ⟨m23, rfl, hM⟩; refine ⟨_, rfl, ?_⟩; obtain ⟨i23, a23, b23, h23, hb23, hl23⟩ := H22d.out.moved hM; have x23 := cell_hp h23.hX (j := 8) (v := .int .i64 fl) rfl; have y23 : w23.frozen? ⟨X, 8, none⟩ = false := Lib.frozen_of_heap h23.hX 8; have H23 := Lib.hid h23; clear h23 hM))
                all_goals
                  go_wp2_with fail
                  have h24 := H23.out.setX hXS 8 (.int .i64 (bits BinOp.or IntKind.i64 fl m23)) rfl
                  clear x23 y23 x8 c3
                  generalize bits BinOp.or IntKind.i64 fl m23 = fl2 at *
                  generalize w23.setCell ⟨X, 8, none⟩ (.int .i64 fl2) = w24 at *
                  have H24 := Lib.hid h24
                  clear h24
                  refine (cover_any g S i23 a23 b23 kv w24 H24.out.cur).mono ?_
                  rintro e w25 ⟨v25, rfl, m25, rfl⟩
                  have H25 := Lib.hid (H24.out.drewN m25)
                  cases v25
                  · go_wp2_with fail
                    refine (eat_any g S i23 a23 b23 kv 32 _ H25.out.cur).mono ?_
                    rintro e w26 ⟨rfl, hM⟩
                    obtain ⟨i26, a26, b26, h26, hb26, hl26⟩ := H25.out.eaten hM
                    have H26 := Lib.hid h26
                    clear h26 hM
                    go_wp2_with fail
                    go_roundw
                    case rel => exact ⟨_, _, _, _, H26.out⟩
                    case measure => exact togo_lt H22.out.cur H26.out.cur (hl26.imp id (by omega))
                  · go_wp2_with fail
                    first
                    | (go_end0; exact ⟨rfl, _, _, _, _, _, _, H25.out, 0, false, fl2, rfl⟩)
                    | (refine bodyPost_ret (results_none rfl _ _ _) rfl ?_; exact ⟨rfl, _, _, _, _, _, _, H25.out, 0, false, fl2, rfl⟩)
              · go_wp2_with fail
                first
                | (go_end0; exact ⟨rfl, _, _, _, _, _, _, H22.out, 0, false, fl, rfl⟩)
                | (refine bodyPost_ret (results_none rfl _ _ _) rfl ?_; exact ⟨rfl, _, _, _, _, _, _, H22.out, 0, false, fl, rfl⟩)
          · go_wp2_with fail
            refine (flags24 g S i21 a21 b21 kv w21 H21.out.cur).mono ?_
            rintro e w22 ⟨n22, rfl, hM⟩
            obtain ⟨i22, a22, b22, h22, _, _⟩ := H21.out.moved hM
            have x8 := cell_hp h22.hX (j := 8) (v := .int .i64 0) rfl
            have y8 : w22.frozen? ⟨X, 8, none⟩ = false := Lib.frozen_of_heap h22.hX 8
            have H22 := Lib.hid (h22.setX hXS 8 (.int .i64 n22) rfl)
            clear h22 hM
            go_wp2_with fail
            first
            | (go_end0; exact ⟨rfl, _, _, _, _, _, _, H22.out, 0, false, n22, rfl⟩)
            | (refine bodyPost_ret (results_none rfl _ _ _) rfl ?_; exact ⟨rfl, _, _, _, _, _, _, H22.out, 0, false, n22, rfl⟩)
    · have h5 := H5.out
      have x6 := cell_hp h5.hX (j := 6) (v := .int .i64 0) rfl
      have y6 : w5.frozen? ⟨X, 6, none⟩ = false := Lib.frozen_of_heap h5.hX 6
      have H6 := Lib.hid (h5.setX hXS 6 (.int .i64 2) rfl)
      clear h5
      go_wp2_with fail
      clear x6 y6
      generalize w5.setCell ⟨X, 6, none⟩ (.int .i64 2) = w6 at *
      refine (name24 g S i5 a5 b5 kv ⟨#[]⟩ w6 H6.out.cur (by decide)).mono ?_
      rintro e w10 ⟨s, rfl, hs, hM, hno⟩
      clear hno hs
      obtain ⟨i10, a10, b10, h10, _, _⟩ := H6.out.moved hM
      have x7 := cell_hp h10.hX (j := 7) (v := .bool false) rfl
      have y7 : w10.frozen? ⟨X, 7, none⟩ = false := Lib.frozen_of_heap h10.hX 7
      have H10 := Lib.hid h10
      clear h10 hM
      by_cases tq : (s.toList == [102, 108, 97, 103, 115, 46, 115, 105, 108, 101, 110, 116]) = true
      · have tf : (s.toList == [102, 108, 97, 103, 115]) = false := by rw [eq_of_beq tq]; rfl
        have h11 := H10.out.setX hXS 7 (.bool true) rfl
        have x11 := cell_hp h11.hX (j := 7) (v := .bool true) rfl
        have H11 := Lib.hid h11
        clear h11
        go_wp2_with fail
        refine (fail_any g S i10 a10 b10 _ kv _ H11.out.cur).mono ?_
        rintro e w12 ⟨rfl, hC, hK⟩
        obtain ⟨b12, h12⟩ := H11.out.failed hC hK
        have H12 := Lib.hid h12
        clear hC hK h12 x11 x7 y7 tf tq
        go_wp2_with fail
        refine (eat_any g S i10 a10 b12 kv 32 w12 H12.out.cur).mono ?_
        rintro e w20 ⟨rfl, hM⟩
        obtain ⟨i20, a20, b20, h20, _, _⟩ := H12.out.eaten hM
        have H20 := Lib.hid h20
        clear h20 hM
        go_wp2_with fail
        refine (if1_any g S i20 a20 b20 kv 40 w20 H20.out.cur).mono ?_
        rintro e w21 ⟨v21, rfl, hM, hno⟩
        clear hno
        obtain ⟨i21, a21, b21, h21, _, _⟩ := H20.out.moved hM
        have H21 := Lib.hid h21
        clear h21 hM
        cases v21
        · go_wp2_with fail
          go_loopw [] (fun wr => StoreR g X S kv r bad w tag op uid (.slice sA n sC) n 2 true wr) (fun wr => togo g S wr)
          case atStart => exact ⟨_, _, _, _, H21.out⟩
          case round =>
            obtain ⟨i22, a22, b22, fl, h22⟩ := hrel
            have c3 := h22.cur.c3
            have x8 := cell_hp h22.hX (j := 8) (v := .int .i64 fl) rfl
            have H22 := Lib.hid h22
            clear h22
            cases b22
            · go_wp2_with fail
              have H22d := Lib.hid H22.out.drew
              go_region_law (first
                | (refine step_call rfl 105 #[CC g] (by go_simp) (flag24 g S i22 a22 false kv _ H22d.out.cur) ?_; rintro e w23 ⟨m23, rfl, hM⟩; refine ⟨_, rfl, ?_⟩; obtain ⟨i23, a23, b23, h23, hb23, hl23⟩ := H22d.out.moved hM; have x23 := cell_hp h23.hX (j := 8) (v := .int .i64 fl) rfl; have y23 : w23.frozen? ⟨X, 8, none⟩ = false := Lib.frozen_of_heap h23.hX 8; have H23 := Lib.hid h23; clear h23 hM))
              all_goals
                go_wp2_with fail
                have h24 := H23.out.setX hXS 8 (.int .i64 (bits BinOp.or IntKind.i64 fl m23)) rfl
                clear x23 y23 x8 c3
                generalize bits BinOp.or IntKind.i64 fl m23 = fl2 at *
                generalize w23.setCell ⟨X, 8, none⟩ (.int .i64 fl2) = w24 at *
                have H24 := Lib.hid h24
                clear h24
                refine (cover_any g S i23 a23 b23 kv w24 H24.out.cur).mono ?_
                rintro e w25 ⟨v25, rfl, m25, rfl⟩
                have H25 := Lib.hid (H24.out.drewN m25)
                cases v25
                · go_wp2_with fail
                  refine (eat_any g S i23 a23 b23 kv 32 _ H25.out.cur).mono ?_
                  rintro e w26 ⟨rfl, hM⟩
                  obtain ⟨i26, a26, b26, h26, hb26, hl26⟩ := H25.out.eaten hM
                  have H26 := Lib.hid h26
                  clear h26 hM
                  go_wp2_with fail
                  go_roundw
                  case rel => exact ⟨_, _, _, _, H26.out⟩
                  case measure => exact togo_lt H22.out.cur H26.out.cur (hl26.imp id (by omega))
                · go_wp2_with fail
                  first
                  | (go_end0; exact ⟨rfl, _, _, _, _, _, _, H25.out, 2, true, fl2, rfl⟩)
                  | (refine bodyPost_ret (results_none rfl _ _ _) rfl ?_; exact ⟨rfl, _, _, _, _, _, _, H25.out, 2, true, fl2, rfl⟩)
            · go_wp2_with fail
              first
              | (go_end0; exact ⟨rfl, _, _, _, _, _, _, H22.out, 2, true, fl, rfl⟩)
              | (refine bodyPost_ret (results_none rfl _ _ _) rfl ?_; exact ⟨rfl, _, _, _, _, _, _, H22.out, 2, true, fl, rfl⟩)
        · go_wp2_with fail
          refine (flags24 g S i21 a21 b21 kv w21 H21.out.cur).mono ?_
          rintro e w22 ⟨n22, rfl, hM⟩
          obtain ⟨i22, a22, b22, h22, _, _⟩ := H21.out.moved hM
          have x8 := cell_hp h22.hX (j := 8) (v := .int .i64 0) rfl
          have y8 : w22.frozen? ⟨X, 8, none⟩ = false := Lib.frozen_of_heap h22.hX 8
          have H22 := Lib.hid (h22.setX hXS 8 (.int .i64 n22) rfl)
          clear h22 hM
          go_wp2_with fail
          first
          | (go_end0; exact ⟨rfl, _, _, _, _, _, _, H22.out, 2, true, n22, rfl⟩)
          | (refine bodyPost_ret (results_none rfl _ _ _) rfl ?_; exact ⟨rfl, _, _, _, _, _, _, H22.out, 2, true, n22, rfl⟩)
      · rw [Bool.not_eq_true] at tq
        have h11 := H10.out.setX hXS 7 (.bool false) rfl
        have x11 := cell_hp h11.hX (j := 7) (v := .bool false) rfl
        have H11 := Lib.hid h11
        clear h11
        by_cases tf : (s.toList == [102, 108, 97, 103, 115]) = true
        · have tf' := tf
          go_wp2_with fail
          refine (fail_any g S i10 a10 b10 _ kv _ H11.out.cur).mono ?_
          rintro e w12 ⟨rfl, hC, hK⟩
          obtain ⟨b12, h12⟩ := H11.out.failed hC hK
          have H12 := Lib.hid h12
          clear hC hK h12 x11 x7 y7 tf tf' tq
          go_wp2_with fail
          refine (eat_any g S i10 a10 b12 kv 32 w12 H12.out.cur).mono ?_
          rintro e w20 ⟨rfl, hM⟩
          obtain ⟨i20, a20, b20, h20, _, _⟩ := H12.out.eaten hM
          have H20 := Lib.hid h20
          clear h20 hM
          go_wp2_with fail
          refine (if1_any g S i20 a20 b20 kv 40 w20 H20.out.cur).mono ?_
          rintro e w21 ⟨v21, rfl, hM, hno⟩
          clear hno
          obtain ⟨i21, a21, b21, h21, _, _⟩ := H20.out.moved hM
          have H21 := Lib.hid h21
          clear h21 hM
          cases v21
          · go_wp2_with fail
            go_loopw [] (fun wr => StoreR g X S kv r bad w tag op uid (.slice sA n sC) n 2 false wr) (fun wr => togo g S wr)
            case atStart => exact ⟨_, _, _, _, H21.out⟩
            case round =>
              obtain ⟨i22, a22, b22, fl, h22⟩ := hrel
              have c3 := h22.cur.c3
              have x8 := cell_hp h22.hX (j := 8) (v := .int .i64 fl) rfl
              have H22 := Lib.hid h22
              clear h22
              cases b22
              · go_wp2_with fail
                have H22d := Lib.hid H22.out.drew
                go_region_law (first
                  | (refine step_call rfl 105 #[CC g] (by go_simp) (flag24 g S i22 a22 false kv _ H22d.out.cur) ?_; rintro e w23 ⟨m23, rfl, hM⟩; refine ⟨_, rfl, ?_⟩; obtain ⟨i23, a23, b23, h23, hb23, hl23⟩ := H22d.out.moved hM; have x23 := cell_hp h23.hX (j := 8) (v := .int .i64 fl) rfl; have y23 : w23.frozen? ⟨X, 8, none⟩ = false := Lib.frozen_of_heap h23.hX 8; have H23 := Lib.hid h23; clear h23 hM))
                all_goals
                  go_wp2_with fail
                  have h24 := H23.out.setX hXS 8 (.int .i64 (bits BinOp.or IntKind.i64 fl m23)) rfl
                  clear x23 y23 x8 c3
                  generalize bits BinOp.or IntKind.i64 fl m23 = fl2 at *
                  generalize w23.setCell ⟨X, 8, none⟩ (.int .i64 fl2) = w24 at *
                  have H24 := Lib.hid h24
                  clear h24
                  refine (cover_any g S i23 a23 b23 kv w24 H24.out.cur).mono ?_
                  rintro e w25 ⟨v25, rfl, m25, rfl⟩
                  have H25 := Lib.hid (H24.out.drewN m25)
                  cases v25
                  · go_wp2_with fail
                    refine (eat_any g S i23 a23 b23 kv 32 _ H25.out.cur).mono ?_
                    rintro e w26 ⟨rfl, hM⟩
                    obtain ⟨i26, a26, b26, h26, hb26, hl26⟩ := H25.out.eaten hM
                    have H26 := Lib.hid h26
                    clear h26 hM
                    go_wp2_with fail
                    go_roundw
                    case rel => exact ⟨_, _, _, _, H26.out⟩
                    case measure => exact togo_lt H22.out.cur H26.out.cur (hl26.imp id (by omega))
                  · go_wp2_with fail
                    first
                    | (go_end0; exact ⟨rfl, _, _, _, _, _, _, H25.out, 2, false, fl2, rfl⟩)
                    | (refine bodyPost_ret (results_none rfl _ _ _) rfl ?_; exact ⟨rfl, _, _, _, _, _, _, H25.out, 2, false, fl2, rfl⟩)
              · go_wp2_with fail
                first
                | (go_end0; exact ⟨rfl, _, _, _, _, _, _, H22.out, 2, false, fl, rfl⟩)
                | (refine bodyPost_ret (results_none rfl _ _ _) rfl ?_; exact ⟨rfl, _, _, _, _, _, _, H22.out, 2, false, fl, rfl⟩)
          · go_wp2_with fail
            refine (flags24 g S i21 a21 b21 kv w21 H21.out.cur).mono ?_
            rintro e w22 ⟨n22, rfl, hM⟩
            obtain ⟨i22, a22, b22, h22, _, _⟩ := H21.out.moved hM
            have x8 := cell_hp h22.hX (j := 8) (v := .int .i64 0) rfl
            have y8 : w22.frozen? ⟨X, 8, none⟩ = false := Lib.frozen_of_heap h22.hX 8
            have H22 := Lib.hid (h22.setX hXS 8 (.int .i64 n22) rfl)
            clear h22 hM
            go_wp2_with fail
            first
            | (go_end0; exact ⟨rfl, _, _, _, _, _, _, H22.out, 2, false, n22, rfl⟩)
            | (refine bodyPost_ret (results_none rfl _ _ _) rfl ?_; exact ⟨rfl, _, _, _, _, _, _, H22.out, 2, false, n22, rfl⟩)
        · rw [Bool.not_eq_true] at tf
          have tf' := tf
          go_wp2_with fail
          refine (fail_any g S i10 a10 b10 _ kv _ H11.out.cur).mono ?_
          rintro e w12 ⟨rfl, hC, hK⟩
          obtain ⟨b12, h12⟩ := H11.out.failed hC hK
          have H12 := Lib.hid h12
          clear hC hK h12 x11 x7 y7 tf tf' tq
          go_wp2_with fail
          refine (eat_any g S i10 a10 b12 kv 32 w12 H12.out.cur).mono ?_
          rintro e w20 ⟨rfl, hM⟩
          obtain ⟨i20, a20, b20, h20, _, _⟩ := H12.out.eaten hM
          have H20 := Lib.hid h20
          clear h20 hM
          go_wp2_with fail
          refine (if1_any g S i20 a20 b20 kv 40 w20 H20.out.cur).mono ?_
          rintro e w21 ⟨v21, rfl, hM, hno⟩
          clear hno
          obtain ⟨i21, a21, b21, h21, _, _⟩ := H20.out.moved hM
          have H21 := Lib.hid h21
          clear h21 hM
          cases v21
          · go_wp2_with fail
            go_loopw [] (fun wr => StoreR g X S kv r bad w tag op uid (.slice sA n sC) n 2 false wr) (fun wr => togo g S wr)
            case atStart => exact ⟨_, _, _, _, H21.out⟩
            case round =>
              obtain ⟨i22, a22, b22, fl, h22⟩ := hrel
              have c3 := h22.cur.c3
              have x8 := cell_hp h22.hX (j := 8) (v := .int .i64 fl) rfl
              have H22 := Lib.hid h22
              clear h22
              cases b22
              · go_wp2_with fail
                have H22d := Lib.hid H22.out.drew
                go_region_law (first
                  | (refine step_call rfl 105 #[CC g] (by go_simp) (flag24 g S i22 a22 false kv _ H22d.out.cur) ?_; rintro e w23 ⟨m23, rfl, hM⟩; refine ⟨_, rfl, ?_⟩; obtain ⟨i23, a23, b23, h23, hb23, hl23⟩ := H22d.out.moved hM; have x23 := cell_hp h23.hX (j := 8) (v := .int .i64 fl) rfl; have y23 : w23.frozen? ⟨X, 8, none⟩ = false := Lib.frozen_of_heap h23.hX 8; have H23 := Lib.hid h23; clear h23 hM))
                all_goals
                  go_wp2_with fail
                  have h24 := H23.out.setX hXS 8 (.int .i64 (bits BinOp.or IntKind.i64 fl m23)) rfl
                  clear x23 y23 x8 c3
                  generalize bits BinOp.or IntKind.i64 fl m23 = fl2 at *
                  generalize w23.setCell ⟨X, 8, none⟩ (.int .i64 fl2) = w24 at *
                  have H24 := Lib.hid h24
                  clear h24
                  refine (cover_any g S i23 a23 b23 kv w24 H24.out.cur).mono ?_
                  rintro e w25 ⟨v25, rfl, m25, rfl⟩
                  have H25 := Lib.hid (H24.out.drewN m25)
                  cases v25
                  · go_wp2_with fail
                    refine (eat_any g S i23 a23 b23 kv 32 _ H25.out.cur).mono ?_
                    rintro e w26 ⟨rfl, hM⟩
                    obtain ⟨i26, a26, b26, h26, hb26, hl26⟩ := H25.out.eaten hM
                    have H26 := Lib.hid h26
                    clear h26 hM
                    go_wp2_with fail
                    go_roundw
                    case rel => exact ⟨_, _, _, _, H26.out⟩
                    case measure => exact togo_lt H22.out.cur H26.out.cur (hl26.imp id (by omega))
                  · go_wp2_with fail
                    first
                    | (go_end0; exact ⟨rfl, _, _, _, _, _, _, H25.out, 2, false, fl2, rfl⟩)
                    | (refine bodyPost_ret (results_none rfl _ _ _) rfl ?_; exact ⟨rfl, _, _, _, _, _, _, H25.out, 2, false, fl2, rfl⟩)
              · go_wp2_with fail
                first
                | (go_end0; exact ⟨rfl, _, _, _, _, _, _, H22.out, 2, false, fl, rfl⟩)
                | (refine bodyPost_ret (results_none rfl _ _ _) rfl ?_; exact ⟨rfl, _, _, _, _, _, _, H22.out, 2, false, fl, rfl⟩)
          · go_wp2_with fail
            refine (flags24 g S i21 a21 b21 kv w21 H21.out.cur).mono ?_
            rintro e w22 ⟨n22, rfl, hM⟩
            obtain ⟨i22, a22, b22, h22, _, _⟩ := H21.out.moved hM
            have x8 := cell_hp h22.hX (j := 8) (v := .int .i64 0) rfl
            have y8 : w22.frozen? ⟨X, 8, none⟩ = false := Lib.frozen_of_heap h22.hX 8
            have H22 := Lib.hid (h22.setX hXS 8 (.int .i64 n22) rfl)
            clear h22 hM
            go_wp2_with fail
            first
            | (go_end0; exact ⟨rfl, _, _, _, _, _, _, H22.out, 2, false, n22, rfl⟩)
            | (refine bodyPost_ret (results_none rfl _ _ _) rfl ?_; exact ⟨rfl, _, _, _, _, _, _, H22.out, 2, false, n22, rfl⟩)
  · have h5 := H4.out
    have x6 := cell_hp h5.hX (j := 6) (v := .int .i64 0) rfl
    have y6 : w4.frozen? ⟨X, 6, none⟩ = false := Lib.frozen_of_heap h5.hX 6
    have H6 := Lib.hid (h5.setX hXS 6 (.int .i64 1) rfl)
    clear h5
    go_wp2_with fail
    clear x6 y6
    generalize w4.setCell ⟨X, 6, none⟩ (.int .i64 1) = w6 at *
    refine (name24 g S i4 a4 b4 kv ⟨#[]⟩ w6 H6.out.cur (by decide)).mono ?_
    rintro e w10 ⟨s, rfl, hs, hM, hno⟩
    clear hno hs
    obtain ⟨i10, a10, b10, h10, _, _⟩ := H6.out.moved hM
    have x7 := cell_hp h10.hX (j := 7) (v := .bool false) rfl
    have y7 : w10.frozen? ⟨X, 7, none⟩ = false := Lib.frozen_of_heap h10.hX 7
    have H10 := Lib.hid h10
    clear h10 hM
    by_cases tq : (s.toList == [102, 108, 97, 103, 115, 46, 115, 105, 108, 101, 110, 116]) = true
    · have tf : (s.toList == [102, 108, 97, 103, 115]) = false := by rw [eq_of_beq tq]; rfl
      have h11 := H10.out.setX hXS 7 (.bool true) rfl
      have x11 := cell_hp h11.hX (j := 7) (v := .bool true) rfl
      have H11 := Lib.hid h11
      clear h11
      go_wp2_with fail
      refine (fail_any g S i10 a10 b10 _ kv _ H11.out.cur).mono ?_
      rintro e w12 ⟨rfl, hC, hK⟩
      obtain ⟨b12, h12⟩ := H11.out.failed hC hK
      have H12 := Lib.hid h12
      clear hC hK h12 x11 x7 y7 tf tq
      go_wp2_with fail
      refine (eat_any g S i10 a10 b12 kv 32 w12 H12.out.cur).mono ?_
      rintro e w20 ⟨rfl, hM⟩
      obtain ⟨i20, a20, b20, h20, _, _⟩ := H12.out.eaten hM
      have H20 := Lib.hid h20
      clear h20 hM
      go_wp2_with fail
      refine (if1_any g S i20 a20 b20 kv 40 w20 H20.out.cur).mono ?_
      rintro e w21 ⟨v21, rfl, hM, hno⟩
      clear hno
      obtain ⟨i21, a21, b21, h21, _, _⟩ := H20.out.moved hM
      have H21 := Lib.hid h21
      clear h21 hM
      cases v21
      · go_wp2_with fail
        go_loopw [] (fun wr => StoreR g X S kv r bad w tag op uid (.slice sA n sC) n 1 true wr) (fun wr => togo g S wr)
        case atStart => exact ⟨_, _, _, _, H21.out⟩
        case round =>
          obtain ⟨i22, a22, b22, fl, h22⟩ := hrel
          have c3 := h22.cur.c3
          have x8 := cell_hp h22.hX (j := 8) (v := .int .i64 fl) rfl
          have H22 := Lib.hid h22
          clear h22
          cases b22
          · go_wp2_with fail
            have H22d := Lib.hid H22.out.drew
            go_region_law (first
              | (refine step_call rfl 105 #[CC g] (by go_simp) (flag24 g S i22 a22 false kv _ H22d.out.cur) ?_; rintro e w23 ⟨m23, rfl, hM⟩; refine ⟨_, rfl, ?_⟩; obtain ⟨i23, a23, b23, h23, hb23, hl23⟩ := H22d.out.moved hM; have x23 := cell_hp h23.hX (j := 8) (v := .int .i64 fl) rfl; have y23 : w23.frozen? ⟨X, 8, none⟩ = false := Lib.frozen_of_heap h23.hX 8; have H23 := Lib.hid h23; clear h23 hM))
            all_goals
              go_wp2_with fail
              have h24 := H23.out.setX hXS 8 (.int .i64 (bits BinOp.or IntKind.i64 fl m23)) rfl
              clear x23 y23 x8 c3
              generalize bits BinOp.or IntKind.i64 fl m23 = fl2 at *
              generalize w23.setCell ⟨X, 8, none⟩ (.int .i64 fl2) = w24 at *
              have H24 := Lib.hid h24
              clear h24
              refine (cover_any g S i23 a23 b23 kv w24 H24.out.cur).mono ?_
              rintro e w25 ⟨v25, rfl, m25, rfl⟩
              have H25 := Lib.hid (H24.out.drewN m25)
              cases v25
              · go_wp2_with fail
                refine (eat_any g S i23 a23 b23 kv 32 _ H25.out.cur).mono ?_
                rintro e w26 ⟨rfl, hM⟩
                obtain ⟨i26, a26, b26, h26, hb26, hl26⟩ := H25.out.eaten hM
                have H26 := Lib.hid h26
                clear h26 hM
                go_wp2_with fail
                go_roundw
                case rel => exact ⟨_, _, _, _, H26.out⟩
                case measure => exact togo_lt H22.out.cur H26.out.cur (hl26.imp id (by omega))
              · go_wp2_with fail
                first
                | (go_end0; exact ⟨rfl, _, _, _, _, _, _, H25.out, 1, true, fl2, rfl⟩)
                | (refine bodyPost_ret (results_none rfl _ _ _) rfl ?_; exact ⟨rfl, _, _, _, _, _, _, H25.out, 1, true, fl2, rfl⟩)
          · go_wp2_with fail
            first
            | (go_end0; exact ⟨rfl, _, _, _, _, _, _, H22.out, 1, true, fl, rfl⟩)
            | (refine bodyPost_ret (results_none rfl _ _ _) rfl ?_; exact ⟨rfl, _, _, _, _, _, _, H22.out, 1, true, fl, rfl⟩)
      · go_wp2_with fail
        refine (flags24 g S i21 a21 b21 kv w21 H21.out.cur).mono ?_
        rintro e w22 ⟨n22, rfl, hM⟩
        obtain ⟨i22, a22, b22, h22, _, _⟩ := H21.out.moved hM
        have x8 := cell_hp h22.hX (j := 8) (v := .int .i64 0) rfl
        have y8 : w22.frozen? ⟨X, 8, none⟩ = false := Lib.frozen_of_heap h22.hX 8
        have H22 := Lib.hid (h22.setX hXS 8 (.int .i64 n22) rfl)
        clear h22 hM
        go_wp2_with fail
        first
        | (go_end0; exact ⟨rfl, _, _, _, _, _, _, H22.out, 1, true, n22, rfl⟩)
        | (refine bodyPost_ret (results_none rfl _ _ _) rfl ?_; exact ⟨rfl, _, _, _, _, _, _, H22.out, 1, true, n22, rfl⟩)
    · rw [Bool.not_eq_true] at tq
      have h11 := H10.out.setX hXS 7 (.bool false) rfl
      have x11 := cell_hp h11.hX (j := 7) (v := .bool false) rfl
      have H11 := Lib.hid h11
      clear h11
      by_cases tf : (s.toList == [102, 108, 97, 103, 115]) = true
      · have tf' := tf
        go_wp2_with fail
        refine (fail_any g S i10 a10 b10 _ kv _ H11.out.cur).mono ?_
        rintro e w12 ⟨rfl, hC, hK⟩
        obtain ⟨b12, h12⟩ := H11.out.failed hC hK
        have H12 := Lib.hid h12
        clear hC hK h12 x11 x7 y7 tf tf' tq
        go_wp2_with fail
        refine (eat_any g S i10 a10 b12 kv 32 w12 H12.out.cur).mono ?_
        rintro e w20 ⟨rfl, hM⟩
        obtain ⟨i20, a20, b20, h20, _, _⟩ := H12.out.eaten hM
        have H20 := Lib.hid h20
        clear h20 hM
        go_wp2_with fail
        refine (if1_any g S i20 a20 b20 kv 40 w20 H20.out.cur).mono ?_
        rintro e w21 ⟨v21, rfl, hM, hno⟩
        clear hno
        obtain ⟨i21, a21, b21, h21, _, _⟩ := H20.out.moved hM
        have H21 := Lib.hid h21
        clear h21 hM
        cases v21
        · go_wp2_with fail
          go_loopw [] (fun wr => StoreR g X S kv r bad w tag op uid (.slice sA n sC) n 1 false wr) (fun wr => togo g S wr)
          case atStart => exact ⟨_, _, _, _, H21.out⟩
          case round =>
            obtain ⟨i22, a22, b22, fl, h22⟩ := hrel
            have c3 := h22.cur.c3
            have x8 := cell_hp h22.hX (j := 8) (v := .int .i64 fl) rfl
            have H22 := Lib.hid h22
            clear h22
            cases b22
            · go_wp2_with fail
              have H22d := Lib.hid H22.out.drew
              go_region_law (first
                | (refine step_call rfl 105 #[CC g] (by go_simp) (flag24 g S i22 a22 false kv _ H22d.out.cur) ?_; rintro e w23 ⟨m23, rfl, hM⟩; refine ⟨_, rfl, ?_⟩; obtain ⟨i23, a23, b23, h23, hb23, hl23⟩ := H22d.out.moved hM; have x23 := cell_hp h23.hX (j := 8) (v := .int .i64 fl) rfl; have y23 : w23.frozen? ⟨X, 8, none⟩ = false := Lib.frozen_of_heap h23.hX 8; have H23 := Lib.hid h23; clear h23 hM))
              all_goals
                go_wp2_with fail
                have h24 := H23.out.setX hXS 8 (.int .i64 (bits BinOp.or IntKind.i64 fl m23)) rfl
                clear x23 y23 x8 c3
                generalize bits BinOp.or IntKind.i64 fl m23 = fl2 at *
                generalize w23.setCell ⟨X, 8, none⟩ (.int .i64 fl2) = w24 at *
                have H24 := Lib.hid h24
                clear h24
                refine (cover_any g S i23 a23 b23 kv w24 H24.out.cur).mono ?_
                rintro e w25 ⟨v25, rfl, m25, rfl⟩
                have H25 := Lib.hid (H24.out.drewN m25)
                cases v25
                · go_wp2_with fail
                  refine (eat_any g S i23 a23 b23 kv 32 _ H25.out.cur).mono ?_
                  rintro e w26 ⟨rfl, hM⟩
                  obtain ⟨i26, a26, b26, h26, hb26, hl26⟩ := H25.out.eaten hM
                  have H26 := Lib.hid h26
                  clear h26 hM
                  go_wp2_with fail
                  go_roundw
                  case rel => exact ⟨_, _, _, _, H26.out⟩
                  case measure => exact togo_lt H22.out.cur H26.out.cur (hl26.imp id (by omega))
                · go_wp2_with fail
                  first
                  | (go_end0; exact ⟨rfl, _, _, _, _, _, _, H25.out, 1, false, fl2, rfl⟩)
                  | (refine bodyPost_ret (results_none rfl _ _ _) rfl ?_; exact ⟨rfl, _, _, _, _, _, _, H25.out, 1, false, fl2, rfl⟩)
            · go_wp2_with fail
              first
              | (go_end0; exact ⟨rfl, _, _, _, _, _, _, H22.out, 1, false, fl, rfl⟩)
              | (refine bodyPost_ret (results_none rfl _ _ _) rfl ?_; exact ⟨rfl, _, _, _, _, _, _, H22.out, 1, false, fl, rfl⟩)
        · go_wp2_with fail
          refine (flags24 g S i21 a21 b21 kv w21 H21.out.cur).mono ?_
          rintro e w22 ⟨n22, rfl, hM⟩
          obtain ⟨i22, a22, b22, h22, _, _⟩ := H21.out.moved hM
          have x8 := cell_hp h22.hX (j := 8) (v := .int .i64 0) rfl
          have y8 : w22.frozen? ⟨X, 8, none⟩ = false := Lib.frozen_of_heap h22.hX 8
          have H22 := Lib.hid (h22.setX hXS 8 (.int .i64 n22) rfl)
          clear h22 hM
          go_wp2_with fail
          first
          | (go_end0; exact ⟨rfl, _, _, _, _, _, _, H22.out, 1, false, n22, rfl⟩)
          | (refine bodyPost_ret (results_none rfl _ _ _) rfl ?_; exact ⟨rfl, _, _, _, _, _, _, H22.out, 1, false, n22, rfl⟩)
      · rw [Bool.not_eq_true] at tf
        have tf' := tf
        go_wp2_with fail
        refine (fail_any g S i10 a10 b10 _ kv _ H11.out.cur).mono ?_
        rintro e w12 ⟨rfl, hC, hK⟩
        obtain ⟨b12, h12⟩ := H11.out.failed hC hK
        have H12 := Lib.hid h12
        clear hC hK h12 x11 x7 y7 tf tf' tq
        go_wp2_with fail
        refine (eat_any g S i10 a10 b12 kv 32 w12 H12.out.cur).mono ?_
        rintro e w20 ⟨rfl, hM⟩
        obtain ⟨i20, a20, b20, h20, _, _⟩ := H12.out.eaten hM
        have H20 := Lib.hid h20
        clear h20 hM
        go_wp2_with fail
        refine (if1_any g S i20 a20 b20 kv 40 w20 H20.out.cur).mono ?_
        rintro e w21 ⟨v21, rfl, hM, hno⟩
        clear hno
        obtain ⟨i21, a21, b21, h21, _, _⟩ := H20.out.moved hM
        have H21 := Lib.hid h21
        clear h21 hM
        cases v21
        · go_wp2_with fail
          go_loopw [] (fun wr => StoreR g X S kv r bad w tag op uid (.slice sA n sC) n 1 false wr) (fun wr => togo g S wr)
          case atStart => exact ⟨_, _, _, _, H21.out⟩
          case round =>
            obtain ⟨i22, a22, b22, fl, h22⟩ := hrel
            have c3 := h22.cur.c3
            have x8 := cell_hp h22.hX (j := 8) (v := .int .i64 fl) rfl
            have H22 := Lib.hid h22
            clear h22
            cases b22
            · go_wp2_with fail
              have H22d := Lib.hid H22.out.drew
              go_region_law (first
                | (refine step_call rfl 105 #[CC g] (by go_simp) (flag24 g S i22 a22 false kv _ H22d.out.cur) ?_; rintro e w23 ⟨m23, rfl, hM⟩; refine ⟨_, rfl, ?_⟩; obtain ⟨i23, a23, b23, h23, hb23, hl23⟩ := H22d.out.moved hM; have x23 := cell_hp h23.hX (j := 8) (v := .int .i64 fl) rfl; have y23 : w23.frozen? ⟨X, 8, none⟩ = false := Lib.frozen_of_heap h23.hX 8; have H23 := Lib.hid h23; clear h23 hM))
              all_goals
                go_wp2_with fail
                have h24 := H23.out.setX hXS 8 (.int .i64 (bits BinOp.or IntKind.i64 fl m23)) rfl
                clear x23 y23 x8 c3
                generalize bits BinOp.or IntKind.i64 fl m23 = fl2 at *
                generalize w23.setCell ⟨X, 8, none⟩ (.int .i64 fl2) = w24 at *
                have H24 := Lib.hid h24
                clear h24
                refine (cover_any g S i23 a23 b23 kv w24 H24.out.cur).mono ?_
                rintro e w25 ⟨v25, rfl, m25, rfl⟩
                have H25 := Lib.hid (H24.out.drewN m25)
                cases v25
                · go_wp2_with fail
                  refine (eat_any g S i23 a23 b23 kv 32 _ H25.out.cur).mono ?_
                  rintro e w26 ⟨rfl, hM⟩
                  obtain ⟨i26, a26, b26, h26, hb26, hl26⟩ := H25.out.eaten hM
                  have H26 := Lib.hid h26
                  clear h26 hM
                  go_wp2_with fail
                  go_roundw
                  case rel => exact ⟨_, _, _, _, H26.out⟩
                  case measure => exact togo_lt H22.out.cur H26.out.cur (hl26.imp id (by omega))
                · go_wp2_with fail
                  first
                  | (go_end0; exact ⟨rfl, _, _, _, _, _, _, H25.out, 1, false, fl2, rfl⟩)
                  | (refine bodyPost_ret (results_none rfl _ _ _) rfl ?_; exact ⟨rfl, _, _, _, _, _, _, H25.out, 1, false, fl2, rfl⟩)
            · go_wp2_with fail
              first
              | (go_end0; exact ⟨rfl, _, _, _, _, _, _, H22.out, 1, false, fl, rfl⟩)
              | (refine bodyPost_ret (results_none rfl _ _ _) rfl ?_; exact ⟨rfl, _, _, _, _, _, _, H22.out, 1, false, fl, rfl⟩)
        · go_wp2_with fail
          refine (flags24 g S i21 a21 b21 kv w21 H21.out.cur).mono ?_
          rintro e w22 ⟨n22, rfl, hM⟩
          obtain ⟨i22, a22, b22, h22, _, _⟩ := H21.out.moved hM
          have x8 := cell_hp h22.hX (j := 8) (v := .int .i64 0) rfl
          have y8 : w22.frozen? ⟨X, 8, none⟩ = false := Lib.frozen_of_heap h22.hX 8
          have H22 := Lib.hid (h22.setX hXS 8 (.int .i64 n22) rfl)
          clear h22 hM
          go_wp2_with fail
          first
          | (go_end0; exact ⟨rfl, _, _, _, _, _, _, H22.out, 1, false, n22, rfl⟩)
          | (refine bodyPost_ret (results_none rfl _ _ _) rfl ?_; exact ⟨rfl, _, _, _, _, _, _, H22.out, 1, false, n22, rfl⟩)

end Go.Proofs.YtjamgkcmpcnfpaaGreatDoor

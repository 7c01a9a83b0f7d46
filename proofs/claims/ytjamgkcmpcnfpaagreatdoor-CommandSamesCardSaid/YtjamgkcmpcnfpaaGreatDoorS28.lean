/-
  The cursor's 'takes'.
-/
import Derived.Test.YtjamgkcmpcnfpaaGreatDoorS24
import Derived.Test.YtjamgkcmpcnfpaaGreatDoorS25
import Derived.Test.YtjamgkcmpcnfpaaGreatDoorS27
set_option linter.unusedVariables false
set_option linter.unusedSimpArgs false

namespace Go.Proofs.YtjamgkcmpcnfpaaGreatDoor
open Go.RowKit

/-- What 'takes' leaves. -/
def TakesP (B g X : Nat) (S : Src) (w : World) (e : Ending) (W : World) : Prop :=
  e = .returned (.tuple #[]) ∧ ∃ (cs : Array Value) (i a : Nat) (b : Bool) (kv : Value), cs.size = 15 ∧ W.heap[X]? = some (.cells cs 31 (0, 0)) ∧ CmdOk B W cs.toList ∧ Cur g S W i a b kv ∧ Below B w W

section
variable {B g X : Nat} {S : Src} {kv sv iv fv kk : Value} {r i a n ni nf nk : Nat} {bad b uid q : Bool} {w w1 W : World} {tag box dest body : ByteArray} {op mode fl date num : Int}

theorem takes_done (hBg : B ≤ g) (hBX : B ≤ X) (hBw : B ≤ w.heap.size) (h : TSt g X S kv r bad w (cmdT tag op uid box dest sv mode q fl date num body iv fv kk) sv n i a b W)
    (hI : Rowed B 3 1 OneInt iv ni W) (hni : ni ≤ 100000) (hF : Rowed B 59 8 (ItemOk B W) fv nf W) (hnf : nf ≤ 100) (hK : Rowed B 77 7 (KeyOk B W) kk nk W) (hnk : nk ≤ 60) : TakesP B g X S w (.returned (.tuple #[])) W :=
  ⟨rfl, _, i, a, b, kv, rfl, h.hX, ⟨tag, box, dest, body, op, mode, fl, date, num, uid, q, sv, iv, fv, kk, n, ni, nf, nk, rfl, h.n2001, hni, hnf, hnk, h.row.base hBw, hI, hF, hK⟩, h.cur, h.kk.below hBg hBX hBw⟩

theorem takes_plain (hBg : B ≤ g) (hBX : B ≤ X) (hBw : B ≤ w.heap.size) (h : TSt g X S kv r bad w (cmdT tag op uid box dest sv mode q fl date num body (.slice none 0 0) (.slice none 0 0) (.slice none 0 0)) sv n i a b W) : TakesP B g X S w (.returned (.tuple #[])) W :=
  takes_done hBg hBX hBw h (Rowed.nil _) (by omega) (Rowed.nil _) (by omega) (Rowed.nil _) (by omega)

theorem takes_fill {cs : Array Value} (hBg : B ≤ g) (hBX : B ≤ X) (hBw : B ≤ w.heap.size) (h : TSt g X S kv r bad w cs sv n i a b W) (hq : PlainQ tag op uid cs sv) : TakesP B g X S w (.returned (.tuple #[])) W := by
  obtain ⟨box, dest, mode, q, fl, date, num, body, rfl⟩ := hq
  exact takes_plain hBg hBX hBw h

theorem StoreQ.plain {cs : Array Value} (h : StoreQ tag op uid cs sv) : PlainQ tag op uid cs sv := by
  obtain ⟨mode, q, fl, rfl⟩ := h
  exact ⟨_, _, _, _, _, _, _, _, rfl⟩

theorem KeyOk.base {B' : Nat} {x : List Value} (h : KeyOk B W x) (hB : B' ≤ B) : KeyOk B' W x := by
  obtain ⟨op, nm, tx, n, sv, a, b, m, rfl, hm, hR⟩ := h
  exact ⟨op, nm, tx, n, sv, a, b, m, rfl, hm, hR.base (by omega)⟩

theorem takes_search {kv2 : Value} (hBg : B ≤ g) (hBX : B ≤ X) (hXS : X ≠ S.b) (hX : w1.heap[X]? = some (.cells (cmd0 tag op uid) 31 (0, 0))) (hB1 : Below B w w1) (hBw : B ≤ w1.heap.size) (h : KSt g S r bad w1 i a b kv2 W) (hXg : X ≠ g) :
    TakesP B g X S w (.returned (.tuple #[])) (W.setCell ⟨X, 14, none⟩ kv2) := by
  have hXW : W.heap[X]? = some (.cells (cmd0 tag op uid) 31 (0, 0)) := (h.kk.block X (Array.getElem?_eq_some_iff.1 hX).1 hXg (.inr fun cs fr e => by rw [hX] at e; injection e with e; injection e with _ e; exact absurd e (by decide))).trans hX
  obtain ⟨n, hn, hR⟩ := h.keys
  refine ⟨rfl, cmdT tag op uid ⟨#[]⟩ ⟨#[]⟩ (.slice none 0 0) 0 false 0 0 0 ⟨#[]⟩ (.slice none 0 0) (.slice none 0 0) kv2, i, a, b, kv2, rfl, by rw [heap_set hXW]; rfl,
    ⟨tag, ⟨#[]⟩, ⟨#[]⟩, ⟨#[]⟩, op, 0, 0, 0, 0, uid, false, _, _, _, _, 0, 0, 0, n, rfl, by omega, by omega, by omega, hn, Rowed.nil _, Rowed.nil _, Rowed.nil _, ?_⟩, h.cur.other (p := ⟨X, 14, none⟩) hXg hXS _, ?_⟩
  · exact ((hR.mono fun x _ hx => hx.base hBg).base (by omega)).keys (Typed.set hXW (by decide)) (Typed.set hXW (by decide))
  · refine hB1.trans ?_
    refine ⟨h.kk.os, h.kk.tape, h.kk.output, by simpa [World.setCell] using h.kk.size, fun k hk => ?_⟩
    exact (Below.heap_setCell W ⟨X, 14, none⟩ kv2 k (by show k ≠ X; omega)).trans (h.kk.block k (by omega) (by omega) (.inl (by omega)))
end


theorem TSt.join {g X : Nat} {S : Src} {kv sv : Value} {cs cs2 : Array Value} {r i a i2 a2 n : Nat} {bad b b2 : Bool} {w W W2 : World} (h : TSt g X S kv r bad w cs (.slice none 0 0) 0 i a b W) (k : TSt g X S kv (left S i a) b W cs2 sv n i2 a2 b2 W2) : TSt g X S kv r bad w cs2 sv n i2 a2 b2 W2 :=
  ⟨k.cur, k.hX, k.row.base h.kk.size, k.n2001, h.kk.trans k.kk, Nat.le_trans k.le h.le, fun x => k.bad (h.bad x)⟩

theorem Keys.nil {g : Nat} (W : World) : Keys g (.slice none 0 0) W := ⟨0, by omega, Rowed.nil _⟩

set_option maxHeartbeats 64000000 in
set_option maxRecDepth 100000 in
theorem takes24 (B g X : Nat) (S : Src) (hsg : S.b < g) (i a : Nat) (bad : Bool) (tag : ByteArray) (op : Int) (uid : Bool) (w : World) (h : Cur g S w i a bad (.slice none 0 0)) (hX : w.heap[X]? = some (.cells (cmd0 tag op uid) 31 (0, 0))) (hXS : X ≠ S.b)
    (hBg : B ≤ g) (hBX : B ≤ X) : Calls Tryz.prog 39 #[CC g, .pointer (some ⟨X, 0, none⟩)] w (TakesP B g X S w) := by
  have hBw : B ≤ w.heap.size := by have := h.lt; omega
  have h0 := TSt.start h hX
  have hkeys : ∀ W, Kept2 g X w W → Keys g (.slice none 0 0) W := fun W _ => Keys.nil W
  have x1 := cell_hp hX (j := 1) (v := .int .i64 op) rfl
  have x2 := cell_hp hX (j := 2) (v := .bool uid) rfl
  generalize left S i a = r at *
  have H0 := Lib.hid h0
  have hxx : X ≠ g := h0.xg
  have Hkeys := Lib.hid hkeys
  clear h hX h0 hkeys
  by_cases e1 : op = 1
  · subst e1
    go_enter Tryz.func39, Tryz.ntmps39
    go_wp2_with fail
    first
    | (go_end0; exact takes_plain hBg hBX hBw H0.out)
    | (refine bodyPost_ret (results_none rfl _ _ _) rfl ?_; exact takes_plain hBg hBX hBw H0.out)
  by_cases e2 : op = 2
  · subst e2
    go_enter Tryz.func39, Tryz.ntmps39
    go_wp2_with fail
    first
    | (go_end0; exact takes_plain hBg hBX hBw H0.out)
    | (refine bodyPost_ret (results_none rfl _ _ _) rfl ?_; exact takes_plain hBg hBX hBw H0.out)
  by_cases e3 : op = 3
  · subst e3
    go_enter Tryz.func39, Tryz.ntmps39
    go_wp2_with fail
    first
    | (go_end0; exact takes_plain hBg hBX hBw H0.out)
    | (refine bodyPost_ret (results_none rfl _ _ _) rfl ?_; exact takes_plain hBg hBX hBw H0.out)
  by_cases e4 : op = 4
  · subst e4
    go_enter Tryz.func39, Tryz.ntmps39
    go_wp2_with fail
    refine (eat_any g S i a bad (.slice none 0 0) 32 w H0.out.cur).mono ?_
    rintro e w1 ⟨rfl, hM⟩
    obtain ⟨i1, a1, b1, h1, _, _⟩ := H0.out.eaten hM
    have H1 := Lib.hid h1
    clear hM
    clear h1
    have q1 := cell_hp H1.out.hX (j := 1) (v := .int .i64 4) rfl
    go_wp2_with fail
    refine (short24 g S i1 a1 b1 (.slice none 0 0) 40 w1 H1.out.cur).mono ?_
    rintro e w2 ⟨s2, rfl, hs2, hM⟩
    obtain ⟨i2, a2, b2, h2, _, _⟩ := H1.out.moved hM
    have H2 := Lib.hid h2
    clear hM
    have x2 := cell_hp h2.hX (j := 3) (v := .string ⟨#[]⟩) rfl
    have y2 : w2.frozen? ⟨X, 3, none⟩ = false := Lib.frozen_of_heap h2.hX 3
    have g2 := h2.setX hXS 3 (.string s2) rfl (cs2 := cmdT tag 4 uid s2 ⟨#[]⟩ (.slice none 0 0) 0 false 0 0 0 ⟨#[]⟩ (.slice none 0 0) (.slice none 0 0) (.slice none 0 0))
    clear h2
    go_wp2_with fail
    clear x2 y2 H2
    generalize w2.setCell ⟨X, 3, none⟩ (.string s2) = v2 at *
    have H2 := Lib.hid g2
    clear g2
    go_wp2_with fail
    refine (eat_any g S i2 a2 b2 (.slice none 0 0) 32 v2 H2.out.cur).mono ?_
    rintro e w3 ⟨rfl, hM⟩
    obtain ⟨i3, a3, b3, h3, _, _⟩ := H2.out.eaten hM
    have H3 := Lib.hid h3
    clear hM
    clear h3
    go_wp2_with fail
    refine (short24 g S i3 a3 b3 (.slice none 0 0) 40 w3 H3.out.cur).mono ?_
    rintro e w4 ⟨s4, rfl, hs4, hM⟩
    obtain ⟨i4, a4, b4, h4, _, _⟩ := H3.out.moved hM
    have H4 := Lib.hid h4
    clear hM
    have x4 := cell_hp h4.hX (j := 4) (v := .string ⟨#[]⟩) rfl
    have y4 : w4.frozen? ⟨X, 4, none⟩ = false := Lib.frozen_of_heap h4.hX 4
    have g4 := h4.setX hXS 4 (.string s4) rfl (cs2 := cmdT tag 4 uid s2 s4 (.slice none 0 0) 0 false 0 0 0 ⟨#[]⟩ (.slice none 0 0) (.slice none 0 0) (.slice none 0 0))
    clear h4
    go_wp2_with fail
    clear x4 y4 H4
    generalize w4.setCell ⟨X, 4, none⟩ (.string s4) = v4 at *
    have H4 := Lib.hid g4
    clear g4
    go_wp2_with fail
    first
    | (go_end0; exact takes_plain hBg hBX hBw H4.out)
    | (refine bodyPost_ret (results_none rfl _ _ _) rfl ?_; exact takes_plain hBg hBX hBw H4.out)
  by_cases e5 : op = 5
  · subst e5
    go_enter Tryz.func39, Tryz.ntmps39
    go_wp2_with fail
    refine (eat_any g S i a bad (.slice none 0 0) 32 w H0.out.cur).mono ?_
    rintro e w1 ⟨rfl, hM⟩
    obtain ⟨i1, a1, b1, h1, _, _⟩ := H0.out.eaten hM
    have H1 := Lib.hid h1
    clear hM
    clear h1
    have q1 := cell_hp H1.out.hX (j := 1) (v := .int .i64 5) rfl
    go_wp2_with fail
    refine (box24 g S i1 a1 b1 (.slice none 0 0) w1 H1.out.cur).mono ?_
    rintro e w2 ⟨s2, rfl, hM⟩
    obtain ⟨i2, a2, b2, h2, _, _⟩ := H1.out.moved hM
    have H2 := Lib.hid h2
    clear hM
    have x2 := cell_hp h2.hX (j := 3) (v := .string ⟨#[]⟩) rfl
    have y2 : w2.frozen? ⟨X, 3, none⟩ = false := Lib.frozen_of_heap h2.hX 3
    have g2 := h2.setX hXS 3 (.string s2) rfl (cs2 := cmdT tag 5 uid s2 ⟨#[]⟩ (.slice none 0 0) 0 false 0 0 0 ⟨#[]⟩ (.slice none 0 0) (.slice none 0 0) (.slice none 0 0))
    clear h2
    go_wp2_with fail
    clear x2 y2 H2
    generalize w2.setCell ⟨X, 3, none⟩ (.string s2) = v2 at *
    have H2 := Lib.hid g2
    clear g2
    go_wp2_with fail
    first
    | (go_end0; exact takes_plain hBg hBX hBw H2.out)
    | (refine bodyPost_ret (results_none rfl _ _ _) rfl ?_; exact takes_plain hBg hBX hBw H2.out)
  by_cases e6 : op = 6
  · subst e6
    go_enter Tryz.func39, Tryz.ntmps39
    go_wp2_with fail
    refine (eat_any g S i a bad (.slice none 0 0) 32 w H0.out.cur).mono ?_
    rintro e w1 ⟨rfl, hM⟩
    obtain ⟨i1, a1, b1, h1, _, _⟩ := H0.out.eaten hM
    have H1 := Lib.hid h1
    clear hM
    clear h1
    have q1 := cell_hp H1.out.hX (j := 1) (v := .int .i64 6) rfl
    go_wp2_with fail
    refine (box24 g S i1 a1 b1 (.slice none 0 0) w1 H1.out.cur).mono ?_
    rintro e w2 ⟨s2, rfl, hM⟩
    obtain ⟨i2, a2, b2, h2, _, _⟩ := H1.out.moved hM
    have H2 := Lib.hid h2
    clear hM
    have x2 := cell_hp h2.hX (j := 3) (v := .string ⟨#[]⟩) rfl
    have y2 : w2.frozen? ⟨X, 3, none⟩ = false := Lib.frozen_of_heap h2.hX 3
    have g2 := h2.setX hXS 3 (.string s2) rfl (cs2 := cmdT tag 6 uid s2 ⟨#[]⟩ (.slice none 0 0) 0 false 0 0 0 ⟨#[]⟩ (.slice none 0 0) (.slice none 0 0) (.slice none 0 0))
    clear h2
    go_wp2_with fail
    clear x2 y2 H2
    generalize w2.setCell ⟨X, 3, none⟩ (.string s2) = v2 at *
    have H2 := Lib.hid g2
    clear g2
    go_wp2_with fail
    first
    | (go_end0; exact takes_plain hBg hBX hBw H2.out)
    | (refine bodyPost_ret (results_none rfl _ _ _) rfl ?_; exact takes_plain hBg hBX hBw H2.out)
  by_cases e7 : op = 7
  · subst e7
    go_enter Tryz.func39, Tryz.ntmps39
    go_wp2_with fail
    refine (eat_any g S i a bad (.slice none 0 0) 32 w H0.out.cur).mono ?_
    rintro e w1 ⟨rfl, hM⟩
    obtain ⟨i1, a1, b1, h1, _, _⟩ := H0.out.eaten hM
    have H1 := Lib.hid h1
    clear hM
    clear h1
    have q1 := cell_hp H1.out.hX (j := 1) (v := .int .i64 7) rfl
    go_wp2_with fail
    refine (box24 g S i1 a1 b1 (.slice none 0 0) w1 H1.out.cur).mono ?_
    rintro e w2 ⟨s2, rfl, hM⟩
    obtain ⟨i2, a2, b2, h2, _, _⟩ := H1.out.moved hM
    have H2 := Lib.hid h2
    clear hM
    have x2 := cell_hp h2.hX (j := 3) (v := .string ⟨#[]⟩) rfl
    have y2 : w2.frozen? ⟨X, 3, none⟩ = false := Lib.frozen_of_heap h2.hX 3
    have g2 := h2.setX hXS 3 (.string s2) rfl (cs2 := cmdT tag 7 uid s2 ⟨#[]⟩ (.slice none 0 0) 0 false 0 0 0 ⟨#[]⟩ (.slice none 0 0) (.slice none 0 0) (.slice none 0 0))
    clear h2
    go_wp2_with fail
    clear x2 y2 H2
    generalize w2.setCell ⟨X, 3, none⟩ (.string s2) = v2 at *
    have H2 := Lib.hid g2
    clear g2
    go_wp2_with fail
    first
    | (go_end0; exact takes_plain hBg hBX hBw H2.out)
    | (refine bodyPost_ret (results_none rfl _ _ _) rfl ?_; exact takes_plain hBg hBX hBw H2.out)
  by_cases e8 : op = 8
  · subst e8
    go_enter Tryz.func39, Tryz.ntmps39
    go_wp2_with fail
    refine (eat_any g S i a bad (.slice none 0 0) 32 w H0.out.cur).mono ?_
    rintro e w1 ⟨rfl, hM⟩
    obtain ⟨i1, a1, b1, h1, _, _⟩ := H0.out.eaten hM
    have H1 := Lib.hid h1
    clear hM
    clear h1
    have q1 := cell_hp H1.out.hX (j := 1) (v := .int .i64 8) rfl
    go_wp2_with fail
    refine (box24 g S i1 a1 b1 (.slice none 0 0) w1 H1.out.cur).mono ?_
    rintro e w2 ⟨s2, rfl, hM⟩
    obtain ⟨i2, a2, b2, h2, _, _⟩ := H1.out.moved hM
    have H2 := Lib.hid h2
    clear hM
    have x2 := cell_hp h2.hX (j := 3) (v := .string ⟨#[]⟩) rfl
    have y2 : w2.frozen? ⟨X, 3, none⟩ = false := Lib.frozen_of_heap h2.hX 3
    have g2 := h2.setX hXS 3 (.string s2) rfl (cs2 := cmdT tag 8 uid s2 ⟨#[]⟩ (.slice none 0 0) 0 false 0 0 0 ⟨#[]⟩ (.slice none 0 0) (.slice none 0 0) (.slice none 0 0))
    clear h2
    go_wp2_with fail
    clear x2 y2 H2
    generalize w2.setCell ⟨X, 3, none⟩ (.string s2) = v2 at *
    have H2 := Lib.hid g2
    clear g2
    go_wp2_with fail
    first
    | (go_end0; exact takes_plain hBg hBX hBw H2.out)
    | (refine bodyPost_ret (results_none rfl _ _ _) rfl ?_; exact takes_plain hBg hBX hBw H2.out)
  by_cases e9 : op = 9
  · subst e9
    go_enter Tryz.func39, Tryz.ntmps39
    go_wp2_with fail
    refine (eat_any g S i a bad (.slice none 0 0) 32 w H0.out.cur).mono ?_
    rintro e w1 ⟨rfl, hM⟩
    obtain ⟨i1, a1, b1, h1, _, _⟩ := H0.out.eaten hM
    have H1 := Lib.hid h1
    clear hM
    clear h1
    have q1 := cell_hp H1.out.hX (j := 1) (v := .int .i64 9) rfl
    go_wp2_with fail
    refine (box24 g S i1 a1 b1 (.slice none 0 0) w1 H1.out.cur).mono ?_
    rintro e w2 ⟨s2, rfl, hM⟩
    obtain ⟨i2, a2, b2, h2, _, _⟩ := H1.out.moved hM
    have H2 := Lib.hid h2
    clear hM
    have x2 := cell_hp h2.hX (j := 3) (v := .string ⟨#[]⟩) rfl
    have y2 : w2.frozen? ⟨X, 3, none⟩ = false := Lib.frozen_of_heap h2.hX 3
    have g2 := h2.setX hXS 3 (.string s2) rfl (cs2 := cmdT tag 9 uid s2 ⟨#[]⟩ (.slice none 0 0) 0 false 0 0 0 ⟨#[]⟩ (.slice none 0 0) (.slice none 0 0) (.slice none 0 0))
    clear h2
    go_wp2_with fail
    clear x2 y2 H2
    generalize w2.setCell ⟨X, 3, none⟩ (.string s2) = v2 at *
    have H2 := Lib.hid g2
    clear g2
    go_wp2_with fail
    refine (eat_any g S i2 a2 b2 (.slice none 0 0) 32 v2 H2.out.cur).mono ?_
    rintro e w3 ⟨rfl, hM⟩
    obtain ⟨i3, a3, b3, h3, _, _⟩ := H2.out.eaten hM
    have H3 := Lib.hid h3
    clear hM
    clear h3
    go_wp2_with fail
    refine (box24 g S i3 a3 b3 (.slice none 0 0) w3 H3.out.cur).mono ?_
    rintro e w4 ⟨s4, rfl, hM⟩
    obtain ⟨i4, a4, b4, h4, _, _⟩ := H3.out.moved hM
    have H4 := Lib.hid h4
    clear hM
    have x4 := cell_hp h4.hX (j := 4) (v := .string ⟨#[]⟩) rfl
    have y4 : w4.frozen? ⟨X, 4, none⟩ = false := Lib.frozen_of_heap h4.hX 4
    have g4 := h4.setX hXS 4 (.string s4) rfl (cs2 := cmdT tag 9 uid s2 s4 (.slice none 0 0) 0 false 0 0 0 ⟨#[]⟩ (.slice none 0 0) (.slice none 0 0) (.slice none 0 0))
    clear h4
    go_wp2_with fail
    clear x4 y4 H4
    generalize w4.setCell ⟨X, 4, none⟩ (.string s4) = v4 at *
    have H4 := Lib.hid g4
    clear g4
    go_wp2_with fail
    first
    | (go_end0; exact takes_plain hBg hBX hBw H4.out)
    | (refine bodyPost_ret (results_none rfl _ _ _) rfl ?_; exact takes_plain hBg hBX hBw H4.out)
  by_cases e10 : op = 10
  · subst e10
    go_enter Tryz.func39, Tryz.ntmps39
    go_wp2_with fail
    refine (eat_any g S i a bad (.slice none 0 0) 32 w H0.out.cur).mono ?_
    rintro e w1 ⟨rfl, hM⟩
    obtain ⟨i1, a1, b1, h1, _, _⟩ := H0.out.eaten hM
    have H1 := Lib.hid h1
    clear hM
    clear h1
    have q1 := cell_hp H1.out.hX (j := 1) (v := .int .i64 10) rfl
    go_wp2_with fail
    refine (box24 g S i1 a1 b1 (.slice none 0 0) w1 H1.out.cur).mono ?_
    rintro e w2 ⟨s2, rfl, hM⟩
    obtain ⟨i2, a2, b2, h2, _, _⟩ := H1.out.moved hM
    have H2 := Lib.hid h2
    clear hM
    have x2 := cell_hp h2.hX (j := 3) (v := .string ⟨#[]⟩) rfl
    have y2 : w2.frozen? ⟨X, 3, none⟩ = false := Lib.frozen_of_heap h2.hX 3
    have g2 := h2.setX hXS 3 (.string s2) rfl (cs2 := cmdT tag 10 uid s2 ⟨#[]⟩ (.slice none 0 0) 0 false 0 0 0 ⟨#[]⟩ (.slice none 0 0) (.slice none 0 0) (.slice none 0 0))
    clear h2
    go_wp2_with fail
    clear x2 y2 H2
    generalize w2.setCell ⟨X, 3, none⟩ (.string s2) = v2 at *
    have H2 := Lib.hid g2
    clear g2
    go_wp2_with fail
    first
    | (go_end0; exact takes_plain hBg hBX hBw H2.out)
    | (refine bodyPost_ret (results_none rfl _ _ _) rfl ?_; exact takes_plain hBg hBX hBw H2.out)
  by_cases e11 : op = 11
  · subst e11
    go_enter Tryz.func39, Tryz.ntmps39
    go_wp2_with fail
    refine (eat_any g S i a bad (.slice none 0 0) 32 w H0.out.cur).mono ?_
    rintro e w1 ⟨rfl, hM⟩
    obtain ⟨i1, a1, b1, h1, _, _⟩ := H0.out.eaten hM
    have H1 := Lib.hid h1
    clear hM
    clear h1
    have q1 := cell_hp H1.out.hX (j := 1) (v := .int .i64 11) rfl
    go_wp2_with fail
    refine (box24 g S i1 a1 b1 (.slice none 0 0) w1 H1.out.cur).mono ?_
    rintro e w2 ⟨s2, rfl, hM⟩
    obtain ⟨i2, a2, b2, h2, _, _⟩ := H1.out.moved hM
    have H2 := Lib.hid h2
    clear hM
    have x2 := cell_hp h2.hX (j := 3) (v := .string ⟨#[]⟩) rfl
    have y2 : w2.frozen? ⟨X, 3, none⟩ = false := Lib.frozen_of_heap h2.hX 3
    have g2 := h2.setX hXS 3 (.string s2) rfl (cs2 := cmdT tag 11 uid s2 ⟨#[]⟩ (.slice none 0 0) 0 false 0 0 0 ⟨#[]⟩ (.slice none 0 0) (.slice none 0 0) (.slice none 0 0))
    clear h2
    go_wp2_with fail
    clear x2 y2 H2
    generalize w2.setCell ⟨X, 3, none⟩ (.string s2) = v2 at *
    have H2 := Lib.hid g2
    clear g2
    go_wp2_with fail
    first
    | (go_end0; exact takes_plain hBg hBX hBw H2.out)
    | (refine bodyPost_ret (results_none rfl _ _ _) rfl ?_; exact takes_plain hBg hBX hBw H2.out)
  by_cases e12 : op = 12
  · subst e12
    go_enter Tryz.func39, Tryz.ntmps39
    go_wp2_with fail
    refine (eat_any g S i a bad (.slice none 0 0) 32 w H0.out.cur).mono ?_
    rintro e w1 ⟨rfl, hM⟩
    obtain ⟨i1, a1, b1, h1, _, _⟩ := H0.out.eaten hM
    have H1 := Lib.hid h1
    clear hM
    clear h1
    have q1 := cell_hp H1.out.hX (j := 1) (v := .int .i64 12) rfl
    go_wp2_with fail
    refine (str24 g S i1 a1 b1 (.slice none 0 0) ⟨#[42, 37]⟩ w1 H1.out.cur (by decide)).mono ?_
    rintro e w2 ⟨s2, rfl, hs2, hM⟩
    obtain ⟨i2, a2, b2, h2, _, _⟩ := H1.out.moved hM
    have H2 := Lib.hid h2
    clear hM
    have x2 := cell_hp h2.hX (j := 3) (v := .string ⟨#[]⟩) rfl
    have y2 : w2.frozen? ⟨X, 3, none⟩ = false := Lib.frozen_of_heap h2.hX 3
    have g2 := h2.setX hXS 3 (.string s2) rfl (cs2 := cmdT tag 12 uid s2 ⟨#[]⟩ (.slice none 0 0) 0 false 0 0 0 ⟨#[]⟩ (.slice none 0 0) (.slice none 0 0) (.slice none 0 0))
    clear h2
    go_wp2_with fail
    clear x2 y2 H2
    generalize w2.setCell ⟨X, 3, none⟩ (.string s2) = v2 at *
    have H2 := Lib.hid g2
    clear g2
    go_wp2_with fail
    refine (eat_any g S i2 a2 b2 (.slice none 0 0) 32 v2 H2.out.cur).mono ?_
    rintro e w3 ⟨rfl, hM⟩
    obtain ⟨i3, a3, b3, h3, _, _⟩ := H2.out.eaten hM
    have H3 := Lib.hid h3
    clear hM
    clear h3
    go_wp2_with fail
    refine (str24 g S i3 a3 b3 (.slice none 0 0) ⟨#[42, 37]⟩ w3 H3.out.cur (by decide)).mono ?_
    rintro e w4 ⟨s4, rfl, hs4, hM⟩
    obtain ⟨i4, a4, b4, h4, _, _⟩ := H3.out.moved hM
    have H4 := Lib.hid h4
    clear hM
    have x4 := cell_hp h4.hX (j := 4) (v := .string ⟨#[]⟩) rfl
    have y4 : w4.frozen? ⟨X, 4, none⟩ = false := Lib.frozen_of_heap h4.hX 4
    have g4 := h4.setX hXS 4 (.string s4) rfl (cs2 := cmdT tag 12 uid s2 s4 (.slice none 0 0) 0 false 0 0 0 ⟨#[]⟩ (.slice none 0 0) (.slice none 0 0) (.slice none 0 0))
    clear h4
    go_wp2_with fail
    clear x4 y4 H4
    generalize w4.setCell ⟨X, 4, none⟩ (.string s4) = v4 at *
    have H4 := Lib.hid g4
    clear g4
    have z3 := cell_hp H4.out.hX (j := 3) (v := .string s2) rfl
    have z4 := cell_hp H4.out.hX (j := 4) (v := .string s4) rfl
    go_region_held3 (fun w' => w'.cell? ⟨X, 3, none⟩ = some (.string s2) ∧ w'.cell? ⟨X, 4, none⟩ = some (.string s4)) (first | exact ⟨z3, z4⟩ | go_keep)
      (first | (go_at_call 67; refine (Join10 s2 s4 _ (by assumption) (by assumption)).mono ?_; rintro e w' ⟨jr, jn, rfl, rfl⟩))
    all_goals
      have H8 := Lib.hid H4.out.drew
      clear z3 z4
      go_wp2_with fail
      refine (fail_any g S i4 a4 b4 _ (.slice none 0 0) _ H8.out.cur).mono ?_
      rintro e w9 ⟨rfl, hC, hK⟩
      obtain ⟨b9, h9⟩ := H8.out.failed hC hK
      have H9 := Lib.hid h9
      clear h9 hC hK
      go_wp2_with fail
      first
      | (go_end0; exact takes_plain hBg hBX hBw H9.out)
      | (refine bodyPost_ret (results_none rfl _ _ _) rfl ?_; exact takes_plain hBg hBX hBw H9.out)
  by_cases e13 : op = 13
  · subst e13
    go_enter Tryz.func39, Tryz.ntmps39
    go_wp2_with fail
    refine (eat_any g S i a bad (.slice none 0 0) 32 w H0.out.cur).mono ?_
    rintro e w1 ⟨rfl, hM⟩
    obtain ⟨i1, a1, b1, h1, _, _⟩ := H0.out.eaten hM
    have H1 := Lib.hid h1
    clear hM
    clear h1
    have q1 := cell_hp H1.out.hX (j := 1) (v := .int .i64 13) rfl
    go_wp2_with fail
    refine (str24 g S i1 a1 b1 (.slice none 0 0) ⟨#[42, 37]⟩ w1 H1.out.cur (by decide)).mono ?_
    rintro e w2 ⟨s2, rfl, hs2, hM⟩
    obtain ⟨i2, a2, b2, h2, _, _⟩ := H1.out.moved hM
    have H2 := Lib.hid h2
    clear hM
    have x2 := cell_hp h2.hX (j := 3) (v := .string ⟨#[]⟩) rfl
    have y2 : w2.frozen? ⟨X, 3, none⟩ = false := Lib.frozen_of_heap h2.hX 3
    have g2 := h2.setX hXS 3 (.string s2) rfl (cs2 := cmdT tag 13 uid s2 ⟨#[]⟩ (.slice none 0 0) 0 false 0 0 0 ⟨#[]⟩ (.slice none 0 0) (.slice none 0 0) (.slice none 0 0))
    clear h2
    go_wp2_with fail
    clear x2 y2 H2
    generalize w2.setCell ⟨X, 3, none⟩ (.string s2) = v2 at *
    have H2 := Lib.hid g2
    clear g2
    go_wp2_with fail
    refine (eat_any g S i2 a2 b2 (.slice none 0 0) 32 v2 H2.out.cur).mono ?_
    rintro e w3 ⟨rfl, hM⟩
    obtain ⟨i3, a3, b3, h3, _, _⟩ := H2.out.eaten hM
    have H3 := Lib.hid h3
    clear hM
    clear h3
    go_wp2_with fail
    refine (str24 g S i3 a3 b3 (.slice none 0 0) ⟨#[42, 37]⟩ w3 H3.out.cur (by decide)).mono ?_
    rintro e w4 ⟨s4, rfl, hs4, hM⟩
    obtain ⟨i4, a4, b4, h4, _, _⟩ := H3.out.moved hM
    have H4 := Lib.hid h4
    clear hM
    have x4 := cell_hp h4.hX (j := 4) (v := .string ⟨#[]⟩) rfl
    have y4 : w4.frozen? ⟨X, 4, none⟩ = false := Lib.frozen_of_heap h4.hX 4
    have g4 := h4.setX hXS 4 (.string s4) rfl (cs2 := cmdT tag 13 uid s2 s4 (.slice none 0 0) 0 false 0 0 0 ⟨#[]⟩ (.slice none 0 0) (.slice none 0 0) (.slice none 0 0))
    clear h4
    go_wp2_with fail
    clear x4 y4 H4
    generalize w4.setCell ⟨X, 4, none⟩ (.string s4) = v4 at *
    have H4 := Lib.hid g4
    clear g4
    have z3 := cell_hp H4.out.hX (j := 3) (v := .string s2) rfl
    have z4 := cell_hp H4.out.hX (j := 4) (v := .string s4) rfl
    go_region_held3 (fun w' => w'.cell? ⟨X, 3, none⟩ = some (.string s2) ∧ w'.cell? ⟨X, 4, none⟩ = some (.string s4)) (first | exact ⟨z3, z4⟩ | go_keep)
      (first | (go_at_call 67; refine (Join10 s2 s4 _ (by assumption) (by assumption)).mono ?_; rintro e w' ⟨jr, jn, rfl, rfl⟩))
    all_goals
      have H8 := Lib.hid H4.out.drew
      clear z3 z4
      go_wp2_with fail
      refine (fail_any g S i4 a4 b4 _ (.slice none 0 0) _ H8.out.cur).mono ?_
      rintro e w9 ⟨rfl, hC, hK⟩
      obtain ⟨b9, h9⟩ := H8.out.failed hC hK
      have H9 := Lib.hid h9
      clear h9 hC hK
      go_wp2_with fail
      first
      | (go_end0; exact takes_plain hBg hBX hBw H9.out)
      | (refine bodyPost_ret (results_none rfl _ _ _) rfl ?_; exact takes_plain hBg hBX hBw H9.out)
  by_cases e14 : op = 14
  · subst e14
    go_enter Tryz.func39, Tryz.ntmps39
    go_wp2_with fail
    refine (eat_any g S i a bad (.slice none 0 0) 32 w H0.out.cur).mono ?_
    rintro e w1 ⟨rfl, hM⟩
    obtain ⟨i1, a1, b1, h1, _, _⟩ := H0.out.eaten hM
    have H1 := Lib.hid h1
    clear hM
    clear h1
    have q1 := cell_hp H1.out.hX (j := 1) (v := .int .i64 14) rfl
    go_wp2_with fail
    refine (status24 g X S i1 a1 b1 (.slice none 0 0) tag 14 uid w1 H1.out.cur H1.out.hX hXS).mono ?_
    rintro e w9 ⟨rfl, box, iv, k, i9, a9, b9, h9, hI, hk⟩
    have h10 := H1.out.join h9
    have hI' := hI.base (Nat.le_trans hBw H1.out.kk.size)
    have H10 := Lib.hid h10
    have HI := Lib.hid hI'
    clear h9 h10 hI hI'
    go_wp2_with fail
    first
    | (go_end0; exact takes_done hBg hBX hBw H10.out HI.out (by omega) (Rowed.nil _) (by omega) (Rowed.nil _) (by omega))
    | (refine bodyPost_ret (results_none rfl _ _ _) rfl ?_; exact takes_done hBg hBX hBw H10.out HI.out (by omega) (Rowed.nil _) (by omega) (Rowed.nil _) (by omega))
  by_cases e15 : op = 15
  · subst e15
    go_enter Tryz.func39, Tryz.ntmps39
    go_wp2_with fail
    refine (eat_any g S i a bad (.slice none 0 0) 32 w H0.out.cur).mono ?_
    rintro e w1 ⟨rfl, hM⟩
    obtain ⟨i1, a1, b1, h1, _, _⟩ := H0.out.eaten hM
    have H1 := Lib.hid h1
    clear hM
    clear h1
    have q1 := cell_hp H1.out.hX (j := 1) (v := .int .i64 15) rfl
    go_wp2_with fail
    refine (appended24 g X S i1 a1 b1 (.slice none 0 0) tag 15 uid w1 H1.out.cur H1.out.hX hXS).mono ?_
    rintro e w9 ⟨rfl, cs, sv, n, i9, a9, b9, h9, hq⟩
    have h10 := H1.out.join h9
    have H10 := Lib.hid h10
    have HQ := Lib.hid hq
    clear h9 h10 hq
    go_wp2_with fail
    first
    | (go_end0; exact takes_fill hBg hBX hBw H10.out HQ.out)
    | (refine bodyPost_ret (results_none rfl _ _ _) rfl ?_; exact takes_fill hBg hBX hBw H10.out HQ.out)
  by_cases e16 : op = 16
  · subst e16
    go_enter Tryz.func39, Tryz.ntmps39
    go_wp2_with fail
    first
    | (go_end0; exact takes_plain hBg hBX hBw H0.out)
    | (refine bodyPost_ret (results_none rfl _ _ _) rfl ?_; exact takes_plain hBg hBX hBw H0.out)
  by_cases e17 : op = 17
  · subst e17
    go_enter Tryz.func39, Tryz.ntmps39
    go_wp2_with fail
    first
    | (go_end0; exact takes_plain hBg hBX hBw H0.out)
    | (refine bodyPost_ret (results_none rfl _ _ _) rfl ?_; exact takes_plain hBg hBX hBw H0.out)
  by_cases e18 : op = 18
  · subst e18
    cases uid
    · go_enter Tryz.func39, Tryz.ntmps39
      go_wp2_with fail
      first
      | (go_end0; exact takes_plain hBg hBX hBw H0.out)
      | (refine bodyPost_ret (results_none rfl _ _ _) rfl ?_; exact takes_plain hBg hBX hBw H0.out)
    · go_enter Tryz.func39, Tryz.ntmps39
      go_wp2_with fail
      refine (eat_any g S i a bad (.slice none 0 0) 32 w H0.out.cur).mono ?_
      rintro e w1 ⟨rfl, hM⟩
      obtain ⟨i1, a1, b1, h1, _, _⟩ := H0.out.eaten hM
      have H1 := Lib.hid h1
      clear hM
      clear h1
      go_wp2_with fail
      refine (set24 g S i1 a1 b1 (.slice none 0 0) w1 H1.out.cur).mono ?_
      intro e w2 hM
      obtain ⟨sA2, sn2, sC2, i2, a2, b2, rfl, h2⟩ := H1.out.set hM
      have H2 := Lib.hid h2
      clear hM
      have x2 := cell_hp h2.hX (j := 5) (v := .slice none 0 0) rfl
      have y2 : w2.frozen? ⟨X, 5, none⟩ = false := Lib.frozen_of_heap h2.hX 5
      have g2 := h2.setX hXS 5 (.slice sA2 sn2 sC2) rfl (cs2 := cmdT tag 18 true ⟨#[]⟩ ⟨#[]⟩ (.slice sA2 sn2 sC2) 0 false 0 0 0 ⟨#[]⟩ (.slice none 0 0) (.slice none 0 0) (.slice none 0 0))
      clear h2
      go_wp2_with fail
      clear x2 y2 H2
      generalize w2.setCell ⟨X, 5, none⟩ (.slice sA2 sn2 sC2) = v2 at *
      have H2 := Lib.hid g2
      clear g2
      go_wp2_with fail
      first
      | (go_end0; exact takes_plain hBg hBX hBw H2.out)
      | (refine bodyPost_ret (results_none rfl _ _ _) rfl ?_; exact takes_plain hBg hBX hBw H2.out)
  by_cases e19 : op = 19
  · subst e19
    go_enter Tryz.func39, Tryz.ntmps39
    go_wp2_with fail
    refine (eat_any g S i a bad (.slice none 0 0) 32 w H0.out.cur).mono ?_
    rintro e w1 ⟨rfl, hM⟩
    obtain ⟨i1, a1, b1, h1, _, _⟩ := H0.out.eaten hM
    have H1 := Lib.hid h1
    clear hM
    clear h1
    have q1 := cell_hp H1.out.hX (j := 1) (v := .int .i64 19) rfl
    go_wp2_with fail
    have hXg := H1.out.xg
    refine (search24 g S hsg i1 a1 b1 none 0 0 w1 H1.out.cur (Hkeys.out _ H1.out.kk)).mono ?_
    rintro e w9 ⟨A, n, C, rfl, i9, a9, b9, h9⟩
    have hXW : w9.heap[X]? = some (.cells (cmd0 tag 19 uid) 31 (0, 0)) := (h9.kk.block X H1.out.xlt hXg (.inr fun cs fr e => by rw [H1.out.hX] at e; injection e with e; injection e with _ e; exact absurd e (by decide))).trans H1.out.hX
    have x14 := cell_hp hXW (j := 14) (v := .slice none 0 0) rfl
    have y14 : w9.frozen? ⟨X, 14, none⟩ = false := Lib.frozen_of_heap hXW 14
    have hT := takes_search hBg hBX hXS H1.out.hX (H1.out.kk.below hBg hBX hBw) (Nat.le_trans hBw H1.out.kk.size) h9 hXg
    have HT := Lib.hid hT
    clear hXW h9 hT
    go_wp2_with fail
    first
    | (go_end0; exact HT.out)
    | (refine bodyPost_ret (results_none rfl _ _ _) rfl ?_; exact HT.out)
  by_cases e20 : op = 20
  · subst e20
    go_enter Tryz.func39, Tryz.ntmps39
    go_wp2_with fail
    refine (eat_any g S i a bad (.slice none 0 0) 32 w H0.out.cur).mono ?_
    rintro e w1 ⟨rfl, hM⟩
    obtain ⟨i1, a1, b1, h1, _, _⟩ := H0.out.eaten hM
    have H1 := Lib.hid h1
    clear hM
    clear h1
    have q1 := cell_hp H1.out.hX (j := 1) (v := .int .i64 20) rfl
    go_wp2_with fail
    refine (set24 g S i1 a1 b1 (.slice none 0 0) w1 H1.out.cur).mono ?_
    intro e w2 hM
    obtain ⟨sA2, sn2, sC2, i2, a2, b2, rfl, h2⟩ := H1.out.set hM
    have H2 := Lib.hid h2
    clear hM
    have x2 := cell_hp h2.hX (j := 5) (v := .slice none 0 0) rfl
    have y2 : w2.frozen? ⟨X, 5, none⟩ = false := Lib.frozen_of_heap h2.hX 5
    have g2 := h2.setX hXS 5 (.slice sA2 sn2 sC2) rfl (cs2 := cmdT tag 20 uid ⟨#[]⟩ ⟨#[]⟩ (.slice sA2 sn2 sC2) 0 false 0 0 0 ⟨#[]⟩ (.slice none 0 0) (.slice none 0 0) (.slice none 0 0))
    clear h2
    go_wp2_with fail
    clear x2 y2 H2
    generalize w2.setCell ⟨X, 5, none⟩ (.slice sA2 sn2 sC2) = v2 at *
    have H2 := Lib.hid g2
    clear g2
    go_wp2_with fail
    refine (eat_any g S i2 a2 b2 (.slice none 0 0) 32 v2 H2.out.cur).mono ?_
    rintro e w3 ⟨rfl, hM⟩
    obtain ⟨i3, a3, b3, h3, _, _⟩ := H2.out.eaten hM
    have H3 := Lib.hid h3
    clear hM
    clear h3
    go_wp2_with fail
    refine (items24 g S i3 a3 b3 none 0 0 w3 H3.out.cur).mono ?_
    rintro e w9 ⟨A9, n9, C9, rfl, hn9, hF, hM⟩
    obtain ⟨i9, a9, b9, h9, _, _⟩ := H3.out.moved hM
    have x9 := cell_hp h9.hX (j := 13) (v := .slice none 0 0) rfl
    have y9 : w9.frozen? ⟨X, 13, none⟩ = false := Lib.frozen_of_heap h9.hX 13
    have hbw := Nat.le_trans hBw H3.out.kk.size
    have hF' := ((hF.mono fun x _ hx => hx.base hbw).base hbw).items (Typed.set (j := 13) (u := .slice A9 n9 C9) h9.hX (by decide)) (Typed.set h9.hX (by decide)) (Typed.set h9.hX (by decide))
    have g9 := h9.setX hXS 13 (.slice A9 n9 C9) rfl (cs2 := cmdT tag 20 uid ⟨#[]⟩ ⟨#[]⟩ (.slice sA2 sn2 sC2) 0 false 0 0 0 ⟨#[]⟩ (.slice none 0 0) (.slice A9 n9 C9) (.slice none 0 0))
    have H9 := Lib.hid g9
    have HF := Lib.hid hF'
    clear h9 hM g9 hF hF'
    go_wp2_with fail
    first
    | (go_end0; exact takes_done hBg hBX hBw H9.out (Rowed.nil _) (by omega) HF.out (by omega) (Rowed.nil _) (by omega))
    | (refine bodyPost_ret (results_none rfl _ _ _) rfl ?_; exact takes_done hBg hBX hBw H9.out (Rowed.nil _) (by omega) HF.out (by omega) (Rowed.nil _) (by omega))
  by_cases e21 : op = 21
  · subst e21
    go_enter Tryz.func39, Tryz.ntmps39
    go_wp2_with fail
    refine (eat_any g S i a bad (.slice none 0 0) 32 w H0.out.cur).mono ?_
    rintro e w1 ⟨rfl, hM⟩
    obtain ⟨i1, a1, b1, h1, _, _⟩ := H0.out.eaten hM
    have H1 := Lib.hid h1
    clear hM
    clear h1
    have q1 := cell_hp H1.out.hX (j := 1) (v := .int .i64 21) rfl
    go_wp2_with fail
    refine (store24 g X S i1 a1 b1 (.slice none 0 0) tag 21 uid w1 H1.out.cur H1.out.hX hXS).mono ?_
    rintro e w9 ⟨rfl, cs, sv, n, i9, a9, b9, h9, hq⟩
    have h10 := H1.out.join h9
    have H10 := Lib.hid h10
    have HQ := Lib.hid hq
    clear h9 h10 hq
    go_wp2_with fail
    first
    | (go_end0; exact takes_fill hBg hBX hBw H10.out HQ.out.plain)
    | (refine bodyPost_ret (results_none rfl _ _ _) rfl ?_; exact takes_fill hBg hBX hBw H10.out HQ.out.plain)
  by_cases e22 : op = 22
  · subst e22
    go_enter Tryz.func39, Tryz.ntmps39
    go_wp2_with fail
    refine (eat_any g S i a bad (.slice none 0 0) 32 w H0.out.cur).mono ?_
    rintro e w1 ⟨rfl, hM⟩
    obtain ⟨i1, a1, b1, h1, _, _⟩ := H0.out.eaten hM
    have H1 := Lib.hid h1
    clear hM
    clear h1
    have q1 := cell_hp H1.out.hX (j := 1) (v := .int .i64 22) rfl
    go_wp2_with fail
    refine (set24 g S i1 a1 b1 (.slice none 0 0) w1 H1.out.cur).mono ?_
    intro e w2 hM
    obtain ⟨sA2, sn2, sC2, i2, a2, b2, rfl, h2⟩ := H1.out.set hM
    have H2 := Lib.hid h2
    clear hM
    have x2 := cell_hp h2.hX (j := 5) (v := .slice none 0 0) rfl
    have y2 : w2.frozen? ⟨X, 5, none⟩ = false := Lib.frozen_of_heap h2.hX 5
    have g2 := h2.setX hXS 5 (.slice sA2 sn2 sC2) rfl (cs2 := cmdT tag 22 uid ⟨#[]⟩ ⟨#[]⟩ (.slice sA2 sn2 sC2) 0 false 0 0 0 ⟨#[]⟩ (.slice none 0 0) (.slice none 0 0) (.slice none 0 0))
    clear h2
    go_wp2_with fail
    clear x2 y2 H2
    generalize w2.setCell ⟨X, 5, none⟩ (.slice sA2 sn2 sC2) = v2 at *
    have H2 := Lib.hid g2
    clear g2
    go_wp2_with fail
    refine (eat_any g S i2 a2 b2 (.slice none 0 0) 32 v2 H2.out.cur).mono ?_
    rintro e w3 ⟨rfl, hM⟩
    obtain ⟨i3, a3, b3, h3, _, _⟩ := H2.out.eaten hM
    have H3 := Lib.hid h3
    clear hM
    clear h3
    go_wp2_with fail
    refine (box24 g S i3 a3 b3 (.slice none 0 0) w3 H3.out.cur).mono ?_
    rintro e w4 ⟨s4, rfl, hM⟩
    obtain ⟨i4, a4, b4, h4, _, _⟩ := H3.out.moved hM
    have H4 := Lib.hid h4
    clear hM
    have x4 := cell_hp h4.hX (j := 3) (v := .string ⟨#[]⟩) rfl
    have y4 : w4.frozen? ⟨X, 3, none⟩ = false := Lib.frozen_of_heap h4.hX 3
    have g4 := h4.setX hXS 3 (.string s4) rfl (cs2 := cmdT tag 22 uid s4 ⟨#[]⟩ (.slice sA2 sn2 sC2) 0 false 0 0 0 ⟨#[]⟩ (.slice none 0 0) (.slice none 0 0) (.slice none 0 0))
    clear h4
    go_wp2_with fail
    clear x4 y4 H4
    generalize w4.setCell ⟨X, 3, none⟩ (.string s4) = v4 at *
    have H4 := Lib.hid g4
    clear g4
    go_wp2_with fail
    first
    | (go_end0; exact takes_plain hBg hBX hBw H4.out)
    | (refine bodyPost_ret (results_none rfl _ _ _) rfl ?_; exact takes_plain hBg hBX hBw H4.out)
  by_cases e23 : op = 23
  · subst e23
    go_enter Tryz.func39, Tryz.ntmps39
    go_wp2_with fail
    refine (eat_any g S i a bad (.slice none 0 0) 32 w H0.out.cur).mono ?_
    rintro e w1 ⟨rfl, hM⟩
    obtain ⟨i1, a1, b1, h1, _, _⟩ := H0.out.eaten hM
    have H1 := Lib.hid h1
    clear hM
    clear h1
    have q1 := cell_hp H1.out.hX (j := 1) (v := .int .i64 23) rfl
    go_wp2_with fail
    refine (number24 g S i1 a1 b1 (.slice none 0 0) w1 H1.out.cur).mono ?_
    rintro e w2 ⟨n2, rfl, hM⟩
    obtain ⟨i2, a2, b2, h2, _, _⟩ := H1.out.moved hM
    have H2 := Lib.hid h2
    clear hM
    have x2 := cell_hp h2.hX (j := 10) (v := .int .i64 0) rfl
    have y2 : w2.frozen? ⟨X, 10, none⟩ = false := Lib.frozen_of_heap h2.hX 10
    have g2 := h2.setX hXS 10 (.int .i64 n2) rfl (cs2 := cmdT tag 23 uid ⟨#[]⟩ ⟨#[]⟩ (.slice none 0 0) 0 false 0 0 n2 ⟨#[]⟩ (.slice none 0 0) (.slice none 0 0) (.slice none 0 0))
    clear h2
    go_wp2_with fail
    clear x2 y2 H2
    generalize w2.setCell ⟨X, 10, none⟩ (.int .i64 n2) = v2 at *
    have H2 := Lib.hid g2
    clear g2
    go_wp2_with fail
    first
    | (go_end0; exact takes_plain hBg hBX hBw H2.out)
    | (refine bodyPost_ret (results_none rfl _ _ _) rfl ?_; exact takes_plain hBg hBX hBw H2.out)
  by_cases e24 : op = 24
  · subst e24
    go_enter Tryz.func39, Tryz.ntmps39
    go_wp2_with fail
    refine (eat_any g S i a bad (.slice none 0 0) 32 w H0.out.cur).mono ?_
    rintro e w1 ⟨rfl, hM⟩
    obtain ⟨i1, a1, b1, h1, _, _⟩ := H0.out.eaten hM
    have H1 := Lib.hid h1
    clear hM
    clear h1
    have q1 := cell_hp H1.out.hX (j := 1) (v := .int .i64 24) rfl
    go_wp2_with fail
    refine (box24 g S i1 a1 b1 (.slice none 0 0) w1 H1.out.cur).mono ?_
    rintro e w2 ⟨s2, rfl, hM⟩
    obtain ⟨i2, a2, b2, h2, _, _⟩ := H1.out.moved hM
    have H2 := Lib.hid h2
    clear hM
    have x2 := cell_hp h2.hX (j := 3) (v := .string ⟨#[]⟩) rfl
    have y2 : w2.frozen? ⟨X, 3, none⟩ = false := Lib.frozen_of_heap h2.hX 3
    have g2 := h2.setX hXS 3 (.string s2) rfl (cs2 := cmdT tag 24 uid s2 ⟨#[]⟩ (.slice none 0 0) 0 false 0 0 0 ⟨#[]⟩ (.slice none 0 0) (.slice none 0 0) (.slice none 0 0))
    clear h2
    go_wp2_with fail
    clear x2 y2 H2
    generalize w2.setCell ⟨X, 3, none⟩ (.string s2) = v2 at *
    have H2 := Lib.hid g2
    clear g2
    go_wp2_with fail
    refine (eat_any g S i2 a2 b2 (.slice none 0 0) 32 v2 H2.out.cur).mono ?_
    rintro e w3 ⟨rfl, hM⟩
    obtain ⟨i3, a3, b3, h3, _, _⟩ := H2.out.eaten hM
    have H3 := Lib.hid h3
    clear hM
    clear h3
    go_wp2_with fail
    refine (number24 g S i3 a3 b3 (.slice none 0 0) w3 H3.out.cur).mono ?_
    rintro e w4 ⟨n4, rfl, hM⟩
    obtain ⟨i4, a4, b4, h4, _, _⟩ := H3.out.moved hM
    have H4 := Lib.hid h4
    clear hM
    have x4 := cell_hp h4.hX (j := 10) (v := .int .i64 0) rfl
    have y4 : w4.frozen? ⟨X, 10, none⟩ = false := Lib.frozen_of_heap h4.hX 10
    have g4 := h4.setX hXS 10 (.int .i64 n4) rfl (cs2 := cmdT tag 24 uid s2 ⟨#[]⟩ (.slice none 0 0) 0 false 0 0 n4 ⟨#[]⟩ (.slice none 0 0) (.slice none 0 0) (.slice none 0 0))
    clear h4
    go_wp2_with fail
    clear x4 y4 H4
    generalize w4.setCell ⟨X, 10, none⟩ (.int .i64 n4) = v4 at *
    have H4 := Lib.hid g4
    clear g4
    go_wp2_with fail
    first
    | (go_end0; exact takes_plain hBg hBX hBw H4.out)
    | (refine bodyPost_ret (results_none rfl _ _ _) rfl ?_; exact takes_plain hBg hBX hBw H4.out)
  by_cases e25 : op = 25
  · subst e25
    go_enter Tryz.func39, Tryz.ntmps39
    go_wp2_with fail
    refine (eat_any g S i a bad (.slice none 0 0) 32 w H0.out.cur).mono ?_
    rintro e w1 ⟨rfl, hM⟩
    obtain ⟨i1, a1, b1, h1, _, _⟩ := H0.out.eaten hM
    have H1 := Lib.hid h1
    clear hM
    clear h1
    have q1 := cell_hp H1.out.hX (j := 1) (v := .int .i64 25) rfl
    go_wp2_with fail
    refine (box24 g S i1 a1 b1 (.slice none 0 0) w1 H1.out.cur).mono ?_
    rintro e w2 ⟨s2, rfl, hM⟩
    obtain ⟨i2, a2, b2, h2, _, _⟩ := H1.out.moved hM
    have H2 := Lib.hid h2
    clear hM
    have x2 := cell_hp h2.hX (j := 3) (v := .string ⟨#[]⟩) rfl
    have y2 : w2.frozen? ⟨X, 3, none⟩ = false := Lib.frozen_of_heap h2.hX 3
    have g2 := h2.setX hXS 3 (.string s2) rfl (cs2 := cmdT tag 25 uid s2 ⟨#[]⟩ (.slice none 0 0) 0 false 0 0 0 ⟨#[]⟩ (.slice none 0 0) (.slice none 0 0) (.slice none 0 0))
    clear h2
    go_wp2_with fail
    clear x2 y2 H2
    generalize w2.setCell ⟨X, 3, none⟩ (.string s2) = v2 at *
    have H2 := Lib.hid g2
    clear g2
    refine (cover_any g S i2 a2 b2 (.slice none 0 0) v2 H2.out.cur).mono ?_
    rintro e w8 ⟨v8, rfl, m8, rfl⟩
    have H8 := Lib.hid (H2.out.drewN m8)
    cases v8
    · go_wp2_with fail
      refine (eat_any g S i2 a2 b2 (.slice none 0 0) 32 _ H8.out.cur).mono ?_
      rintro e w9 ⟨rfl, hM⟩
      obtain ⟨i9, a9, b9, h9, _, _⟩ := H8.out.eaten hM
      have H9 := Lib.hid h9
      clear hM
      clear h9
      go_wp2_with fail
      refine (set24 g S i9 a9 b9 (.slice none 0 0) w9 H9.out.cur).mono ?_
      intro e w10 hM
      obtain ⟨sA10, sn10, sC10, i10, a10, b10, rfl, h10⟩ := H9.out.set hM
      have H10 := Lib.hid h10
      clear hM
      have x10 := cell_hp h10.hX (j := 5) (v := .slice none 0 0) rfl
      have y10 : w10.frozen? ⟨X, 5, none⟩ = false := Lib.frozen_of_heap h10.hX 5
      have g10 := h10.setX hXS 5 (.slice sA10 sn10 sC10) rfl (cs2 := cmdT tag 25 uid s2 ⟨#[]⟩ (.slice sA10 sn10 sC10) 0 false 0 0 0 ⟨#[]⟩ (.slice none 0 0) (.slice none 0 0) (.slice none 0 0))
      clear h10
      go_wp2_with fail
      clear x10 y10 H10
      generalize w10.setCell ⟨X, 5, none⟩ (.slice sA10 sn10 sC10) = v10 at *
      have H10 := Lib.hid g10
      clear g10
      go_wp2_with fail
      first
      | (go_end0; exact takes_plain hBg hBX hBw H10.out)
      | (refine bodyPost_ret (results_none rfl _ _ _) rfl ?_; exact takes_plain hBg hBX hBw H10.out)
    · go_wp2_with fail
      first
      | (go_end0; exact takes_plain hBg hBX hBw H8.out)
      | (refine bodyPost_ret (results_none rfl _ _ _) rfl ?_; exact takes_plain hBg hBX hBw H8.out)
  by_cases e26 : op = 26
  · subst e26
    go_enter Tryz.func39, Tryz.ntmps39
    go_wp2_with fail
    refine (eat_any g S i a bad (.slice none 0 0) 32 w H0.out.cur).mono ?_
    rintro e w1 ⟨rfl, hM⟩
    obtain ⟨i1, a1, b1, h1, _, _⟩ := H0.out.eaten hM
    have H1 := Lib.hid h1
    clear hM
    clear h1
    have q1 := cell_hp H1.out.hX (j := 1) (v := .int .i64 26) rfl
    go_wp2_with fail
    refine (number24 g S i1 a1 b1 (.slice none 0 0) w1 H1.out.cur).mono ?_
    rintro e w2 ⟨n2, rfl, hM⟩
    obtain ⟨i2, a2, b2, h2, _, _⟩ := H1.out.moved hM
    have H2 := Lib.hid h2
    clear hM
    have x2 := cell_hp h2.hX (j := 10) (v := .int .i64 0) rfl
    have y2 : w2.frozen? ⟨X, 10, none⟩ = false := Lib.frozen_of_heap h2.hX 10
    have g2 := h2.setX hXS 10 (.int .i64 n2) rfl (cs2 := cmdT tag 26 uid ⟨#[]⟩ ⟨#[]⟩ (.slice none 0 0) 0 false 0 0 n2 ⟨#[]⟩ (.slice none 0 0) (.slice none 0 0) (.slice none 0 0))
    clear h2
    go_wp2_with fail
    clear x2 y2 H2
    generalize w2.setCell ⟨X, 10, none⟩ (.int .i64 n2) = v2 at *
    have H2 := Lib.hid g2
    clear g2
    go_wp2_with fail
    first
    | (go_end0; exact takes_plain hBg hBX hBw H2.out)
    | (refine bodyPost_ret (results_none rfl _ _ _) rfl ?_; exact takes_plain hBg hBX hBw H2.out)
  by_cases e27 : op = 27
  · subst e27
    go_enter Tryz.func39, Tryz.ntmps39
    go_wp2_with fail
    first
    | (go_end0; exact takes_plain hBg hBX hBw H0.out)
    | (refine bodyPost_ret (results_none rfl _ _ _) rfl ?_; exact takes_plain hBg hBX hBw H0.out)
  by_cases e28 : op = 28
  · subst e28
    go_enter Tryz.func39, Tryz.ntmps39
    go_wp2_with fail
    refine (eat_any g S i a bad (.slice none 0 0) 32 w H0.out.cur).mono ?_
    rintro e w1 ⟨rfl, hM⟩
    obtain ⟨i1, a1, b1, h1, _, _⟩ := H0.out.eaten hM
    have H1 := Lib.hid h1
    clear hM
    clear h1
    have q1 := cell_hp H1.out.hX (j := 1) (v := .int .i64 28) rfl
    go_wp2_with fail
    refine (word24 g S i1 a1 b1 (.slice none 0 0) ⟨#[]⟩ w1 H1.out.cur (by decide)).mono ?_
    rintro e w2 ⟨s9, rfl, hs9, hM⟩
    obtain ⟨i2, a2, b2, h2, _, _⟩ := H1.out.moved hM
    have H2 := Lib.hid h2
    clear hM
    clear h2 hs9
    go_wp2_with fail
    first
    | (go_end0; exact takes_plain hBg hBX hBw H2.out)
    | (refine bodyPost_ret (results_none rfl _ _ _) rfl ?_; exact takes_plain hBg hBX hBw H2.out)
  have f1 : (op == 1) = false := by simpa using e1
  have f2 : (op == 2) = false := by simpa using e2
  have f3 : (op == 3) = false := by simpa using e3
  have f4 : (op == 4) = false := by simpa using e4
  have f5 : (op == 5) = false := by simpa using e5
  have f6 : (op == 6) = false := by simpa using e6
  have f7 : (op == 7) = false := by simpa using e7
  have f8 : (op == 8) = false := by simpa using e8
  have f9 : (op == 9) = false := by simpa using e9
  have f10 : (op == 10) = false := by simpa using e10
  have f11 : (op == 11) = false := by simpa using e11
  have f12 : (op == 12) = false := by simpa using e12
  have f13 : (op == 13) = false := by simpa using e13
  have f14 : (op == 14) = false := by simpa using e14
  have f15 : (op == 15) = false := by simpa using e15
  have f16 : (op == 16) = false := by simpa using e16
  have f17 : (op == 17) = false := by simpa using e17
  have f18 : (op == 18) = false := by simpa using e18
  have f19 : (op == 19) = false := by simpa using e19
  have f20 : (op == 20) = false := by simpa using e20
  have f21 : (op == 21) = false := by simpa using e21
  have f22 : (op == 22) = false := by simpa using e22
  have f23 : (op == 23) = false := by simpa using e23
  have f24 : (op == 24) = false := by simpa using e24
  have f25 : (op == 25) = false := by simpa using e25
  have f26 : (op == 26) = false := by simpa using e26
  have f27 : (op == 27) = false := by simpa using e27
  have f28 : (op == 28) = false := by simpa using e28
  clear e1 e2 e3 e4 e5 e6 e7 e8 e9 e10 e11 e12 e13 e14 e15 e16 e17 e18 e19 e20 e21 e22 e23 e24 e25 e26 e27 e28
  go_enter Tryz.func39, Tryz.ntmps39
  go_wp2_with fail
  refine (eat_any g S i a bad (.slice none 0 0) 32 w H0.out.cur).mono ?_
  rintro e w1 ⟨rfl, hM⟩
  obtain ⟨i1, a1, b1, h1, _, _⟩ := H0.out.eaten hM
  have H1 := Lib.hid h1
  clear hM
  clear h1
  have q1 := cell_hp H1.out.hX (j := 1) (v := .int .i64 op) rfl
  have c3 := H1.out.cur.c3
  have f3 := H1.out.cur.f3
  have H2 := Lib.hid (H1.out.kept (H1.out.cur.set3 true) ((Kept.refl g w1).setg 3 _) (Nat.le_refl _) (fun _ => rfl))
  go_wp2_with fail
  first
  | (go_end0; exact takes_plain hBg hBX hBw H2.out)
  | (refine bodyPost_ret (results_none rfl _ _ _) rfl ?_; exact takes_plain hBg hBX hBw H2.out)

end Go.Proofs.YtjamgkcmpcnfpaaGreatDoor

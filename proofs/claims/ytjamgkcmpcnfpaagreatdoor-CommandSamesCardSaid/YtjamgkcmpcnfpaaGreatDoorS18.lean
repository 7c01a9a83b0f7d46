/-
  The document's looks at two rows of keys.
  'macro': what a name stands for.
-/
import Derived.Test.YtjamgkcmpcnfpaaGreatDoorS17
import Derived.Deep.DeepCutAuto
import Derived.Test.YtjamgkcmpcnfpaaGreatDoorS16
set_option linter.unusedVariables false
set_option linter.unusedSimpArgs false

namespace Go.Proofs.YtjamgkcmpcnfpaaGreatDoor
open Go.RowKit

set_option maxHeartbeats 16000000 in
set_option maxRecDepth 100000 in
theorem same_26 (v1 v2 : Value) (d1 d2 : RowD KeyD) (w : World) (h1 : IsRow w 7 IsKey v1 d1) (h2 : IsRow w 7 IsKey v2 d2) : Calls Tryz.prog 26 #[v1, v2] w (EqP (RowD.Eqv KeyD.Eqv d1 d2) w) := by
  have I1 := Lib.hid h1
  have I2 := Lib.hid h2
  obtain ⟨A1, C1, rfl⟩ := h1.form
  obtain ⟨A2, C2, rfl⟩ := h2.form
  have hn1 := h1.1
  have hn2 := h2.1
  clear h1 h2
  by_cases hnn : d1.n = d2.n
  · have hn' : ((d1.n : Int) != (d2.n : Int)) = false := by simp [hnn]
    have Hnn := Lib.hid hnn
    clear hnn
    go_enter Tryz.func26, Tryz.ntmps26
    go_wp2_with fail
    go_loopw [5] (fun x wr => EqFR KeyD.Eqv d1 d2 w x wr) (fun x _ => d1.n - (intOf x).toNat)
    case atStart => exact ⟨0, by omega, fun j hj => absurd hj (by omega), rfl, Below.refl _ _⟩
    case round =>
      obtain ⟨k, hk, hall, rfl, hb⟩ := hrel
      have Hall := Lib.hid hall
      have HB := Lib.hid hb
      have hnn := Hnn.out
      clear hall
      by_cases hlt : k < d1.n
      · have hlt2 : k < d2.n := by omega
        obtain ⟨_, B1, C1', e1, hi1⟩ := I1.out.below hb (fun _ _ h => h.below hb)
        obtain ⟨_, B2, C2', e2, hi2⟩ := I2.out.below hb (fun _ _ h => h.below hb)
        simp only [Value.slice.injEq] at e1 e2
        obtain ⟨rfl, _, rfl⟩ := e1
        obtain ⟨rfl, _, rfl⟩ := e2
        obtain ⟨g1, z1, rfl, hg1, hM1, hc1⟩ := hi1 k hlt
        obtain ⟨g2, z2, rfl, hg2, hM2, hc2⟩ := hi2 k hlt2
        clear hnn hb hi1 hi2
        obtain ⟨D1, hD1⟩ : ∃ D, D = d1.f k := ⟨_, rfl⟩
        obtain ⟨D2, hD2⟩ : ∃ D, D = d2.f k := ⟨_, rfl⟩
        rw [← hD1] at hM1
        rw [← hD2] at hM2
        have hD1 := Lib.hid hD1
        have hD2 := Lib.hid hD2
        obtain ⟨sv1, rfl, RS1⟩ := hM1
        obtain ⟨o1, a1, t1, k1, s1, x1, y1⟩ := D1
        simp only [] at RS1
        obtain ⟨sA1, sC1, rfl⟩ := RS1.form
        have M1 : IsKey wr (keyV o1 a1 t1 k1 (.slice sA1 s1.n sC1) x1 y1).toList ⟨o1, a1, t1, k1, s1, x1, y1⟩ := ⟨_, rfl, RS1⟩
        obtain ⟨sv2, rfl, RS2⟩ := hM2
        obtain ⟨o2, a2, t2, k2, s2, x2, y2⟩ := D2
        simp only [] at RS2
        obtain ⟨sA2, sC2, rfl⟩ := RS2.form
        have M2 : IsKey wr (keyV o2 a2 t2 k2 (.slice sA2 s2.n sC2) x2 y2).toList ⟨o2, a2, t2, k2, s2, x2, y2⟩ := ⟨_, rfl, RS2⟩
        have u0 := hc1 0 _ rfl
        have z0 := hc2 0 _ rfl
        have u1 := hc1 1 _ rfl
        have z1 := hc2 1 _ rfl
        have u2 := hc1 2 _ rfl
        have z2 := hc2 2 _ rfl
        have u3 := hc1 3 _ rfl
        have z3 := hc2 3 _ rfl
        have u4 := hc1 4 _ rfl
        have z4 := hc2 4 _ rfl
        have u5 := hc1 5 _ rfl
        have z5 := hc2 5 _ rfl
        have u6 := hc1 6 _ rfl
        have z6 := hc2 6 _ rfl
        rw [Nat.add_zero] at u0 z0
        clear hc1 hc2
        have hne1 : g1 ≠ wr.heap.size := by omega
        have hne2 : g2 ≠ wr.heap.size := by omega
        have hne3 : g1 ≠ wr.heap.size + 1 := by omega
        have hne4 : g2 ≠ wr.heap.size + 1 := by omega
        go_wp2_with fail
        go_region_held3 (fun w' => w'.cell? ⟨g1, k * 7, none⟩ = some (.int .i64 o1) ∧ w'.cell? ⟨g1, k * 7 + 1, none⟩ = some (.string a1) ∧ w'.cell? ⟨g1, k * 7 + 2, none⟩ = some (.string t1) ∧ w'.cell? ⟨g1, k * 7 + 3, none⟩ = some (.int .i64 k1) ∧ w'.cell? ⟨g1, k * 7 + 4, none⟩ = some (.slice sA1 s1.n sC1) ∧ w'.cell? ⟨g1, k * 7 + 5, none⟩ = some (.int .i64 x1) ∧ w'.cell? ⟨g1, k * 7 + 6, none⟩ = some (.int .i64 y1) ∧ w'.cell? ⟨g2, k * 7, none⟩ = some (.int .i64 o2) ∧ w'.cell? ⟨g2, k * 7 + 1, none⟩ = some (.string a2) ∧ w'.cell? ⟨g2, k * 7 + 2, none⟩ = some (.string t2) ∧ w'.cell? ⟨g2, k * 7 + 3, none⟩ = some (.int .i64 k2) ∧ w'.cell? ⟨g2, k * 7 + 4, none⟩ = some (.slice sA2 s2.n sC2) ∧ w'.cell? ⟨g2, k * 7 + 5, none⟩ = some (.int .i64 x2) ∧ w'.cell? ⟨g2, k * 7 + 6, none⟩ = some (.int .i64 y2)) (first | exact ⟨u0, u1, u2, u3, u4, u5, u6, z0, z1, z2, z3, z4, z5, z6⟩ | go_keep) (fail)
        · refine gen_exit (Q := fun W : World => Below wr.heap.size wr W ∧ W.heap[wr.heap.size]? = some (.cells (keyV o1 a1 t1 k1 (.slice sA1 s1.n sC1) x1 y1) 77 (0, 0)) ∧ W.heap[wr.heap.size + 1]? = some (.cells (keyV o2 a2 t2 k2 (.slice sA2 s2.n sC2) x2 y2) 77 (0, 0))) ⟨(boxed wr (keyV o1 a1 t1 k1 (.slice sA1 s1.n sC1) x1 y1) (keyV o2 a2 t2 k2 (.slice sA2 s2.n sC2) x2 y2) 77).1.drew, (boxed wr (keyV o1 a1 t1 k1 (.slice sA1 s1.n sC1) x1 y1) (keyV o2 a2 t2 k2 (.slice sA2 s2.n sC2) x2 y2) 77).2⟩ ?_
          rintro W ⟨hb1, hx, hy⟩
          have RS10 := Lib.hid (RS1.below hb1 fun _ _ h => h)
          have RS20 := Lib.hid (RS2.below hb1 fun _ _ h => h)
          have HX0 := Lib.hid hx
          have HY0 := Lib.hid hy
          have HB0 := Lib.hid (HB.out.trans (hb1.mono HB.out.size))
          clear hb1 hx hy RS1 RS2 u0 z0 u1 z1 u2 z2 u3 z3 u4 z4 u5 z5 u6 z6
          by_cases e0 : o1 = o2
          rotate_left
          · have ne0 : (o1 == o2) = false := by simpa using e0
            have E0 := Lib.hid e0
            clear e0
            have p0x0 := cell_hp HX0.out (j := 0) (v := .int .i64 o1) rfl
            have q0x0 := cell_hp HY0.out (j := 0) (v := .int .i64 o2) rfl
            have p0x1 := cell_hp HX0.out (j := 1) (v := .string a1) rfl
            have q0x1 := cell_hp HY0.out (j := 1) (v := .string a2) rfl
            have p0x2 := cell_hp HX0.out (j := 2) (v := .string t1) rfl
            have q0x2 := cell_hp HY0.out (j := 2) (v := .string t2) rfl
            have p0x3 := cell_hp HX0.out (j := 3) (v := .int .i64 k1) rfl
            have q0x3 := cell_hp HY0.out (j := 3) (v := .int .i64 k2) rfl
            have p0x5 := cell_hp HX0.out (j := 5) (v := .int .i64 x1) rfl
            have q0x5 := cell_hp HY0.out (j := 5) (v := .int .i64 x2) rfl
            have p0x6 := cell_hp HX0.out (j := 6) (v := .int .i64 y1) rfl
            have q0x6 := cell_hp HY0.out (j := 6) (v := .int .i64 y2) rfl
            have p0x4 := cell_hp HX0.out (j := 4) (v := .slice sA1 s1.n sC1) rfl
            have q0x4 := cell_hp HY0.out (j := 4) (v := .slice sA2 s2.n sC2) rfl
            go_wp2_with fail
            go_ret
            exact EqP.no (fun hh => by have h := hh.2 k hlt; rw [← hD1.out, ← hD2.out] at h; exact E0.out h.1) HB0.out
          subst e0
          by_cases e1 : a1 = a2
          rotate_left
          · have ne1 : (a1.toList == a2.toList) = false := by rw [Bool.eq_false_iff]; exact fun hh => e1 ((bytes_eq _ _).1 hh)
            have E1 := Lib.hid e1
            clear e1
            have p0x0 := cell_hp HX0.out (j := 0) (v := .int .i64 o1) rfl
            have q0x0 := cell_hp HY0.out (j := 0) (v := .int .i64 o1) rfl
            have p0x1 := cell_hp HX0.out (j := 1) (v := .string a1) rfl
            have q0x1 := cell_hp HY0.out (j := 1) (v := .string a2) rfl
            have p0x2 := cell_hp HX0.out (j := 2) (v := .string t1) rfl
            have q0x2 := cell_hp HY0.out (j := 2) (v := .string t2) rfl
            have p0x3 := cell_hp HX0.out (j := 3) (v := .int .i64 k1) rfl
            have q0x3 := cell_hp HY0.out (j := 3) (v := .int .i64 k2) rfl
            have p0x5 := cell_hp HX0.out (j := 5) (v := .int .i64 x1) rfl
            have q0x5 := cell_hp HY0.out (j := 5) (v := .int .i64 x2) rfl
            have p0x6 := cell_hp HX0.out (j := 6) (v := .int .i64 y1) rfl
            have q0x6 := cell_hp HY0.out (j := 6) (v := .int .i64 y2) rfl
            have p0x4 := cell_hp HX0.out (j := 4) (v := .slice sA1 s1.n sC1) rfl
            have q0x4 := cell_hp HY0.out (j := 4) (v := .slice sA2 s2.n sC2) rfl
            go_wp2_with fail
            go_ret
            exact EqP.no (fun hh => by have h := hh.2 k hlt; rw [← hD1.out, ← hD2.out] at h; exact E1.out h.2.1) HB0.out
          subst e1
          by_cases e2 : t1 = t2
          rotate_left
          · have ne2 : (t1.toList == t2.toList) = false := by rw [Bool.eq_false_iff]; exact fun hh => e2 ((bytes_eq _ _).1 hh)
            have E2 := Lib.hid e2
            clear e2
            have p0x0 := cell_hp HX0.out (j := 0) (v := .int .i64 o1) rfl
            have q0x0 := cell_hp HY0.out (j := 0) (v := .int .i64 o1) rfl
            have p0x1 := cell_hp HX0.out (j := 1) (v := .string a1) rfl
            have q0x1 := cell_hp HY0.out (j := 1) (v := .string a1) rfl
            have p0x2 := cell_hp HX0.out (j := 2) (v := .string t1) rfl
            have q0x2 := cell_hp HY0.out (j := 2) (v := .string t2) rfl
            have p0x3 := cell_hp HX0.out (j := 3) (v := .int .i64 k1) rfl
            have q0x3 := cell_hp HY0.out (j := 3) (v := .int .i64 k2) rfl
            have p0x5 := cell_hp HX0.out (j := 5) (v := .int .i64 x1) rfl
            have q0x5 := cell_hp HY0.out (j := 5) (v := .int .i64 x2) rfl
            have p0x6 := cell_hp HX0.out (j := 6) (v := .int .i64 y1) rfl
            have q0x6 := cell_hp HY0.out (j := 6) (v := .int .i64 y2) rfl
            have p0x4 := cell_hp HX0.out (j := 4) (v := .slice sA1 s1.n sC1) rfl
            have q0x4 := cell_hp HY0.out (j := 4) (v := .slice sA2 s2.n sC2) rfl
            go_wp2_with fail
            go_ret
            exact EqP.no (fun hh => by have h := hh.2 k hlt; rw [← hD1.out, ← hD2.out] at h; exact E2.out h.2.2.1) HB0.out
          subst e2
          by_cases e3 : k1 = k2
          rotate_left
          · have ne3 : (k1 == k2) = false := by simpa using e3
            have E3 := Lib.hid e3
            clear e3
            have p0x0 := cell_hp HX0.out (j := 0) (v := .int .i64 o1) rfl
            have q0x0 := cell_hp HY0.out (j := 0) (v := .int .i64 o1) rfl
            have p0x1 := cell_hp HX0.out (j := 1) (v := .string a1) rfl
            have q0x1 := cell_hp HY0.out (j := 1) (v := .string a1) rfl
            have p0x2 := cell_hp HX0.out (j := 2) (v := .string t1) rfl
            have q0x2 := cell_hp HY0.out (j := 2) (v := .string t1) rfl
            have p0x3 := cell_hp HX0.out (j := 3) (v := .int .i64 k1) rfl
            have q0x3 := cell_hp HY0.out (j := 3) (v := .int .i64 k2) rfl
            have p0x5 := cell_hp HX0.out (j := 5) (v := .int .i64 x1) rfl
            have q0x5 := cell_hp HY0.out (j := 5) (v := .int .i64 x2) rfl
            have p0x6 := cell_hp HX0.out (j := 6) (v := .int .i64 y1) rfl
            have q0x6 := cell_hp HY0.out (j := 6) (v := .int .i64 y2) rfl
            have p0x4 := cell_hp HX0.out (j := 4) (v := .slice sA1 s1.n sC1) rfl
            have q0x4 := cell_hp HY0.out (j := 4) (v := .slice sA2 s2.n sC2) rfl
            go_wp2_with fail
            go_ret
            exact EqP.no (fun hh => by have h := hh.2 k hlt; rw [← hD1.out, ← hD2.out] at h; exact E3.out h.2.2.2.1) HB0.out
          subst e3
          by_cases e4 : x1 = x2
          rotate_left
          · have ne4 : (x1 == x2) = false := by simpa using e4
            have E4 := Lib.hid e4
            clear e4
            have p0x0 := cell_hp HX0.out (j := 0) (v := .int .i64 o1) rfl
            have q0x0 := cell_hp HY0.out (j := 0) (v := .int .i64 o1) rfl
            have p0x1 := cell_hp HX0.out (j := 1) (v := .string a1) rfl
            have q0x1 := cell_hp HY0.out (j := 1) (v := .string a1) rfl
            have p0x2 := cell_hp HX0.out (j := 2) (v := .string t1) rfl
            have q0x2 := cell_hp HY0.out (j := 2) (v := .string t1) rfl
            have p0x3 := cell_hp HX0.out (j := 3) (v := .int .i64 k1) rfl
            have q0x3 := cell_hp HY0.out (j := 3) (v := .int .i64 k1) rfl
            have p0x5 := cell_hp HX0.out (j := 5) (v := .int .i64 x1) rfl
            have q0x5 := cell_hp HY0.out (j := 5) (v := .int .i64 x2) rfl
            have p0x6 := cell_hp HX0.out (j := 6) (v := .int .i64 y1) rfl
            have q0x6 := cell_hp HY0.out (j := 6) (v := .int .i64 y2) rfl
            have p0x4 := cell_hp HX0.out (j := 4) (v := .slice sA1 s1.n sC1) rfl
            have q0x4 := cell_hp HY0.out (j := 4) (v := .slice sA2 s2.n sC2) rfl
            go_wp2_with fail
            go_ret
            exact EqP.no (fun hh => by have h := hh.2 k hlt; rw [← hD1.out, ← hD2.out] at h; exact E4.out h.2.2.2.2.2.1) HB0.out
          subst e4
          by_cases e5 : y1 = y2
          rotate_left
          · have ne5 : (y1 == y2) = false := by simpa using e5
            have E5 := Lib.hid e5
            clear e5
            have p0x0 := cell_hp HX0.out (j := 0) (v := .int .i64 o1) rfl
            have q0x0 := cell_hp HY0.out (j := 0) (v := .int .i64 o1) rfl
            have p0x1 := cell_hp HX0.out (j := 1) (v := .string a1) rfl
            have q0x1 := cell_hp HY0.out (j := 1) (v := .string a1) rfl
            have p0x2 := cell_hp HX0.out (j := 2) (v := .string t1) rfl
            have q0x2 := cell_hp HY0.out (j := 2) (v := .string t1) rfl
            have p0x3 := cell_hp HX0.out (j := 3) (v := .int .i64 k1) rfl
            have q0x3 := cell_hp HY0.out (j := 3) (v := .int .i64 k1) rfl
            have p0x5 := cell_hp HX0.out (j := 5) (v := .int .i64 x1) rfl
            have q0x5 := cell_hp HY0.out (j := 5) (v := .int .i64 x1) rfl
            have p0x6 := cell_hp HX0.out (j := 6) (v := .int .i64 y1) rfl
            have q0x6 := cell_hp HY0.out (j := 6) (v := .int .i64 y2) rfl
            have p0x4 := cell_hp HX0.out (j := 4) (v := .slice sA1 s1.n sC1) rfl
            have q0x4 := cell_hp HY0.out (j := 4) (v := .slice sA2 s2.n sC2) rfl
            go_wp2_with fail
            go_ret
            exact EqP.no (fun hh => by have h := hh.2 k hlt; rw [← hD1.out, ← hD2.out] at h; exact E5.out h.2.2.2.2.2.2) HB0.out
          subst e5
          have p0x0 := cell_hp HX0.out (j := 0) (v := .int .i64 o1) rfl
          have q0x0 := cell_hp HY0.out (j := 0) (v := .int .i64 o1) rfl
          have p0x1 := cell_hp HX0.out (j := 1) (v := .string a1) rfl
          have q0x1 := cell_hp HY0.out (j := 1) (v := .string a1) rfl
          have p0x2 := cell_hp HX0.out (j := 2) (v := .string t1) rfl
          have q0x2 := cell_hp HY0.out (j := 2) (v := .string t1) rfl
          have p0x3 := cell_hp HX0.out (j := 3) (v := .int .i64 k1) rfl
          have q0x3 := cell_hp HY0.out (j := 3) (v := .int .i64 k1) rfl
          have p0x5 := cell_hp HX0.out (j := 5) (v := .int .i64 x1) rfl
          have q0x5 := cell_hp HY0.out (j := 5) (v := .int .i64 x1) rfl
          have p0x6 := cell_hp HX0.out (j := 6) (v := .int .i64 y1) rfl
          have q0x6 := cell_hp HY0.out (j := 6) (v := .int .i64 y1) rfl
          have p0x4 := cell_hp HX0.out (j := 4) (v := .slice sA1 s1.n sC1) rfl
          have q0x4 := cell_hp HY0.out (j := 4) (v := .slice sA2 s2.n sC2) rfl
          go_wp2_with fail
          refine (same_16 _ _ s1 s2 _ RS10.out RS20.out).mono ?_
          rintro e w1 ⟨r1, rfl, hr1, hb1⟩
          clear p0x0 q0x0 p0x1 q0x1 p0x2 q0x2 p0x3 q0x3 p0x5 q0x5 p0x6 q0x6 p0x4 q0x4
          have HX1 := Lib.hid (blk hb1 HX0.out)
          have HY1 := Lib.hid (blk hb1 HY0.out)
          have HB1 := Lib.hid (HB0.out.trans (hb1.mono HB0.out.size))
          have HR1 := Lib.hid hr1
          clear hb1 hr1
          cases r1
          · go_wp2_with fail
            go_ret
            exact EqP.no (fun hh => by have h := hh.2 k hlt; rw [← hD1.out, ← hD2.out] at h; exact absurd (HR1.out.2 h.2.2.2.2.1) (by decide)) HB1.out
          go_wp2_with fail
          go_roundw
          case rel => exact ⟨k + 1, by omega, fun j hj => by
            by_cases ej : j = k
            · subst ej; rw [← hD1.out, ← hD2.out]; exact ⟨rfl, rfl, rfl, rfl, HR1.out.1 (by simp), rfl, rfl⟩
            · exact Hall.out j (by omega), by go_num, HB1.out⟩
          case measure => simp [intOf]; omega
        · refine gen_exit (Q := fun W : World => Below wr.heap.size wr W ∧ W.heap[wr.heap.size]? = some (.cells (keyV o2 a2 t2 k2 (.slice sA2 s2.n sC2) x2 y2) 77 (0, 0)) ∧ W.heap[wr.heap.size + 1]? = some (.cells (keyV o1 a1 t1 k1 (.slice sA1 s1.n sC1) x1 y1) 77 (0, 0))) ⟨(boxed wr (keyV o2 a2 t2 k2 (.slice sA2 s2.n sC2) x2 y2) (keyV o1 a1 t1 k1 (.slice sA1 s1.n sC1) x1 y1) 77).1.drew, (boxed wr (keyV o2 a2 t2 k2 (.slice sA2 s2.n sC2) x2 y2) (keyV o1 a1 t1 k1 (.slice sA1 s1.n sC1) x1 y1) 77).2⟩ ?_
          rintro W ⟨hb1, hy, hx⟩
          have RS10 := Lib.hid (RS1.below hb1 fun _ _ h => h)
          have RS20 := Lib.hid (RS2.below hb1 fun _ _ h => h)
          have HX0 := Lib.hid hx
          have HY0 := Lib.hid hy
          have HB0 := Lib.hid (HB.out.trans (hb1.mono HB.out.size))
          clear hb1 hx hy RS1 RS2 u0 z0 u1 z1 u2 z2 u3 z3 u4 z4 u5 z5 u6 z6
          by_cases e0 : o1 = o2
          rotate_left
          · have ne0 : (o1 == o2) = false := by simpa using e0
            have E0 := Lib.hid e0
            clear e0
            have p0x0 := cell_hp HX0.out (j := 0) (v := .int .i64 o1) rfl
            have q0x0 := cell_hp HY0.out (j := 0) (v := .int .i64 o2) rfl
            have p0x1 := cell_hp HX0.out (j := 1) (v := .string a1) rfl
            have q0x1 := cell_hp HY0.out (j := 1) (v := .string a2) rfl
            have p0x2 := cell_hp HX0.out (j := 2) (v := .string t1) rfl
            have q0x2 := cell_hp HY0.out (j := 2) (v := .string t2) rfl
            have p0x3 := cell_hp HX0.out (j := 3) (v := .int .i64 k1) rfl
            have q0x3 := cell_hp HY0.out (j := 3) (v := .int .i64 k2) rfl
            have p0x5 := cell_hp HX0.out (j := 5) (v := .int .i64 x1) rfl
            have q0x5 := cell_hp HY0.out (j := 5) (v := .int .i64 x2) rfl
            have p0x6 := cell_hp HX0.out (j := 6) (v := .int .i64 y1) rfl
            have q0x6 := cell_hp HY0.out (j := 6) (v := .int .i64 y2) rfl
            have p0x4 := cell_hp HX0.out (j := 4) (v := .slice sA1 s1.n sC1) rfl
            have q0x4 := cell_hp HY0.out (j := 4) (v := .slice sA2 s2.n sC2) rfl
            go_wp2_with fail
            go_ret
            exact EqP.no (fun hh => by have h := hh.2 k hlt; rw [← hD1.out, ← hD2.out] at h; exact E0.out h.1) HB0.out
          subst e0
          by_cases e1 : a1 = a2
          rotate_left
          · have ne1 : (a1.toList == a2.toList) = false := by rw [Bool.eq_false_iff]; exact fun hh => e1 ((bytes_eq _ _).1 hh)
            have E1 := Lib.hid e1
            clear e1
            have p0x0 := cell_hp HX0.out (j := 0) (v := .int .i64 o1) rfl
            have q0x0 := cell_hp HY0.out (j := 0) (v := .int .i64 o1) rfl
            have p0x1 := cell_hp HX0.out (j := 1) (v := .string a1) rfl
            have q0x1 := cell_hp HY0.out (j := 1) (v := .string a2) rfl
            have p0x2 := cell_hp HX0.out (j := 2) (v := .string t1) rfl
            have q0x2 := cell_hp HY0.out (j := 2) (v := .string t2) rfl
            have p0x3 := cell_hp HX0.out (j := 3) (v := .int .i64 k1) rfl
            have q0x3 := cell_hp HY0.out (j := 3) (v := .int .i64 k2) rfl
            have p0x5 := cell_hp HX0.out (j := 5) (v := .int .i64 x1) rfl
            have q0x5 := cell_hp HY0.out (j := 5) (v := .int .i64 x2) rfl
            have p0x6 := cell_hp HX0.out (j := 6) (v := .int .i64 y1) rfl
            have q0x6 := cell_hp HY0.out (j := 6) (v := .int .i64 y2) rfl
            have p0x4 := cell_hp HX0.out (j := 4) (v := .slice sA1 s1.n sC1) rfl
            have q0x4 := cell_hp HY0.out (j := 4) (v := .slice sA2 s2.n sC2) rfl
            go_wp2_with fail
            go_ret
            exact EqP.no (fun hh => by have h := hh.2 k hlt; rw [← hD1.out, ← hD2.out] at h; exact E1.out h.2.1) HB0.out
          subst e1
          by_cases e2 : t1 = t2
          rotate_left
          · have ne2 : (t1.toList == t2.toList) = false := by rw [Bool.eq_false_iff]; exact fun hh => e2 ((bytes_eq _ _).1 hh)
            have E2 := Lib.hid e2
            clear e2
            have p0x0 := cell_hp HX0.out (j := 0) (v := .int .i64 o1) rfl
            have q0x0 := cell_hp HY0.out (j := 0) (v := .int .i64 o1) rfl
            have p0x1 := cell_hp HX0.out (j := 1) (v := .string a1) rfl
            have q0x1 := cell_hp HY0.out (j := 1) (v := .string a1) rfl
            have p0x2 := cell_hp HX0.out (j := 2) (v := .string t1) rfl
            have q0x2 := cell_hp HY0.out (j := 2) (v := .string t2) rfl
            have p0x3 := cell_hp HX0.out (j := 3) (v := .int .i64 k1) rfl
            have q0x3 := cell_hp HY0.out (j := 3) (v := .int .i64 k2) rfl
            have p0x5 := cell_hp HX0.out (j := 5) (v := .int .i64 x1) rfl
            have q0x5 := cell_hp HY0.out (j := 5) (v := .int .i64 x2) rfl
            have p0x6 := cell_hp HX0.out (j := 6) (v := .int .i64 y1) rfl
            have q0x6 := cell_hp HY0.out (j := 6) (v := .int .i64 y2) rfl
            have p0x4 := cell_hp HX0.out (j := 4) (v := .slice sA1 s1.n sC1) rfl
            have q0x4 := cell_hp HY0.out (j := 4) (v := .slice sA2 s2.n sC2) rfl
            go_wp2_with fail
            go_ret
            exact EqP.no (fun hh => by have h := hh.2 k hlt; rw [← hD1.out, ← hD2.out] at h; exact E2.out h.2.2.1) HB0.out
          subst e2
          by_cases e3 : k1 = k2
          rotate_left
          · have ne3 : (k1 == k2) = false := by simpa using e3
            have E3 := Lib.hid e3
            clear e3
            have p0x0 := cell_hp HX0.out (j := 0) (v := .int .i64 o1) rfl
            have q0x0 := cell_hp HY0.out (j := 0) (v := .int .i64 o1) rfl
            have p0x1 := cell_hp HX0.out (j := 1) (v := .string a1) rfl
            have q0x1 := cell_hp HY0.out (j := 1) (v := .string a1) rfl
            have p0x2 := cell_hp HX0.out (j := 2) (v := .string t1) rfl
            have q0x2 := cell_hp HY0.out (j := 2) (v := .string t1) rfl
            have p0x3 := cell_hp HX0.out (j := 3) (v := .int .i64 k1) rfl
            have q0x3 := cell_hp HY0.out (j := 3) (v := .int .i64 k2) rfl
            have p0x5 := cell_hp HX0.out (j := 5) (v := .int .i64 x1) rfl
            have q0x5 := cell_hp HY0.out (j := 5) (v := .int .i64 x2) rfl
            have p0x6 := cell_hp HX0.out (j := 6) (v := .int .i64 y1) rfl
            have q0x6 := cell_hp HY0.out (j := 6) (v := .int .i64 y2) rfl
            have p0x4 := cell_hp HX0.out (j := 4) (v := .slice sA1 s1.n sC1) rfl
            have q0x4 := cell_hp HY0.out (j := 4) (v := .slice sA2 s2.n sC2) rfl
            go_wp2_with fail
            go_ret
            exact EqP.no (fun hh => by have h := hh.2 k hlt; rw [← hD1.out, ← hD2.out] at h; exact E3.out h.2.2.2.1) HB0.out
          subst e3
          by_cases e4 : x1 = x2
          rotate_left
          · have ne4 : (x1 == x2) = false := by simpa using e4
            have E4 := Lib.hid e4
            clear e4
            have p0x0 := cell_hp HX0.out (j := 0) (v := .int .i64 o1) rfl
            have q0x0 := cell_hp HY0.out (j := 0) (v := .int .i64 o1) rfl
            have p0x1 := cell_hp HX0.out (j := 1) (v := .string a1) rfl
            have q0x1 := cell_hp HY0.out (j := 1) (v := .string a1) rfl
            have p0x2 := cell_hp HX0.out (j := 2) (v := .string t1) rfl
            have q0x2 := cell_hp HY0.out (j := 2) (v := .string t1) rfl
            have p0x3 := cell_hp HX0.out (j := 3) (v := .int .i64 k1) rfl
            have q0x3 := cell_hp HY0.out (j := 3) (v := .int .i64 k1) rfl
            have p0x5 := cell_hp HX0.out (j := 5) (v := .int .i64 x1) rfl
            have q0x5 := cell_hp HY0.out (j := 5) (v := .int .i64 x2) rfl
            have p0x6 := cell_hp HX0.out (j := 6) (v := .int .i64 y1) rfl
            have q0x6 := cell_hp HY0.out (j := 6) (v := .int .i64 y2) rfl
            have p0x4 := cell_hp HX0.out (j := 4) (v := .slice sA1 s1.n sC1) rfl
            have q0x4 := cell_hp HY0.out (j := 4) (v := .slice sA2 s2.n sC2) rfl
            go_wp2_with fail
            go_ret
            exact EqP.no (fun hh => by have h := hh.2 k hlt; rw [← hD1.out, ← hD2.out] at h; exact E4.out h.2.2.2.2.2.1) HB0.out
          subst e4
          by_cases e5 : y1 = y2
          rotate_left
          · have ne5 : (y1 == y2) = false := by simpa using e5
            have E5 := Lib.hid e5
            clear e5
            have p0x0 := cell_hp HX0.out (j := 0) (v := .int .i64 o1) rfl
            have q0x0 := cell_hp HY0.out (j := 0) (v := .int .i64 o1) rfl
            have p0x1 := cell_hp HX0.out (j := 1) (v := .string a1) rfl
            have q0x1 := cell_hp HY0.out (j := 1) (v := .string a1) rfl
            have p0x2 := cell_hp HX0.out (j := 2) (v := .string t1) rfl
            have q0x2 := cell_hp HY0.out (j := 2) (v := .string t1) rfl
            have p0x3 := cell_hp HX0.out (j := 3) (v := .int .i64 k1) rfl
            have q0x3 := cell_hp HY0.out (j := 3) (v := .int .i64 k1) rfl
            have p0x5 := cell_hp HX0.out (j := 5) (v := .int .i64 x1) rfl
            have q0x5 := cell_hp HY0.out (j := 5) (v := .int .i64 x1) rfl
            have p0x6 := cell_hp HX0.out (j := 6) (v := .int .i64 y1) rfl
            have q0x6 := cell_hp HY0.out (j := 6) (v := .int .i64 y2) rfl
            have p0x4 := cell_hp HX0.out (j := 4) (v := .slice sA1 s1.n sC1) rfl
            have q0x4 := cell_hp HY0.out (j := 4) (v := .slice sA2 s2.n sC2) rfl
            go_wp2_with fail
            go_ret
            exact EqP.no (fun hh => by have h := hh.2 k hlt; rw [← hD1.out, ← hD2.out] at h; exact E5.out h.2.2.2.2.2.2) HB0.out
          subst e5
          have p0x0 := cell_hp HX0.out (j := 0) (v := .int .i64 o1) rfl
          have q0x0 := cell_hp HY0.out (j := 0) (v := .int .i64 o1) rfl
          have p0x1 := cell_hp HX0.out (j := 1) (v := .string a1) rfl
          have q0x1 := cell_hp HY0.out (j := 1) (v := .string a1) rfl
          have p0x2 := cell_hp HX0.out (j := 2) (v := .string t1) rfl
          have q0x2 := cell_hp HY0.out (j := 2) (v := .string t1) rfl
          have p0x3 := cell_hp HX0.out (j := 3) (v := .int .i64 k1) rfl
          have q0x3 := cell_hp HY0.out (j := 3) (v := .int .i64 k1) rfl
          have p0x5 := cell_hp HX0.out (j := 5) (v := .int .i64 x1) rfl
          have q0x5 := cell_hp HY0.out (j := 5) (v := .int .i64 x1) rfl
          have p0x6 := cell_hp HX0.out (j := 6) (v := .int .i64 y1) rfl
          have q0x6 := cell_hp HY0.out (j := 6) (v := .int .i64 y1) rfl
          have p0x4 := cell_hp HX0.out (j := 4) (v := .slice sA1 s1.n sC1) rfl
          have q0x4 := cell_hp HY0.out (j := 4) (v := .slice sA2 s2.n sC2) rfl
          go_wp2_with fail
          refine (same_16 _ _ s1 s2 _ RS10.out RS20.out).mono ?_
          rintro e w1 ⟨r1, rfl, hr1, hb1⟩
          clear p0x0 q0x0 p0x1 q0x1 p0x2 q0x2 p0x3 q0x3 p0x5 q0x5 p0x6 q0x6 p0x4 q0x4
          have HX1 := Lib.hid (blk hb1 HX0.out)
          have HY1 := Lib.hid (blk hb1 HY0.out)
          have HB1 := Lib.hid (HB0.out.trans (hb1.mono HB0.out.size))
          have HR1 := Lib.hid hr1
          clear hb1 hr1
          cases r1
          · go_wp2_with fail
            go_ret
            exact EqP.no (fun hh => by have h := hh.2 k hlt; rw [← hD1.out, ← hD2.out] at h; exact absurd (HR1.out.2 h.2.2.2.2.1) (by decide)) HB1.out
          go_wp2_with fail
          go_roundw
          case rel => exact ⟨k + 1, by omega, fun j hj => by
            by_cases ej : j = k
            · subst ej; rw [← hD1.out, ← hD2.out]; exact ⟨rfl, rfl, rfl, rfl, HR1.out.1 (by simp), rfl, rfl⟩
            · exact Hall.out j (by omega), by go_num, HB1.out⟩
          case measure => simp [intOf]; omega
      · clear hnn hb
        go_wp2_with fail
        go_ret
        exact EqP.yes ⟨Hnn.out, fun i hi => Hall.out i (by omega)⟩ HB.out
  · have hn' : ((d1.n : Int) != (d2.n : Int)) = true := by simp; omega
    go_enter Tryz.func26, Tryz.ntmps26
    go_wp2_with fail
    go_ret
    exact EqP.no (fun h => hnn h.1) (Below.refl _ w)

end Go.Proofs.YtjamgkcmpcnfpaaGreatDoor

namespace Go.Proofs.YtjamgkcmpcnfpaaGreatDoor
open Go.RowKit

/-- The items of the greatest macro. -/
abbrev macroL : List (List Value) := [(itN 1 false 0).toList, (itN 2 false 0).toList, (itN 3 false 0).toList, (itN 5 false 0).toList, (itN 6 false 0).toList]

theorem macro_row (w : World) (k : Nat) (hk : k ≤ 5) : Rowed w.heap.size 59 8 (ItemOk w.heap.size (w.alloc (.cells macroL.flatten.toArray 59))) (.slice (some ⟨w.heap.size, 0, none⟩) k 5) k (w.alloc (.cells macroL.flatten.toArray 59)) := by
  refine ⟨macroL.take k, ?_, ?_, ?_, .inr ⟨w.heap.size, 5, _, rfl, Nat.le_refl _, (MapKept.heap_alloc w _).1, hk, by unfold maxLen; omega, rfl, ?_⟩⟩
  · simp; omega
  · intro x hx
    have hx' := List.mem_of_mem_take hx
    simp only [macroL, List.mem_cons, List.not_mem_nil, or_false] at hx'
    rcases hx' with rfl | rfl | rfl | rfl | rfl <;> exact ⟨rfl, itN_ok _ _ _ _ _⟩
  · have h : k = 0 ∨ k = 1 ∨ k = 2 ∨ k = 3 ∨ k = 4 ∨ k = 5 := by omega
    rcases h with rfl | rfl | rfl | rfl | rfl | rfl <;> rfl
  · have h : k = 0 ∨ k = 1 ∨ k = 2 ∨ k = 3 ∨ k = 4 ∨ k = 5 := by omega
    rcases h with rfl | rfl | rfl | rfl | rfl | rfl <;> rfl

/-- Items are returned, or none; what was there stands. -/
def MacroP (w : World) (e : Ending) (W : World) : Prop :=
  ∃ (A : Option Addr) (n C : Nat), e = .returned (.slice A n C) ∧ n ≤ 5 ∧ Rowed w.heap.size 59 8 (ItemOk w.heap.size W) (.slice A n C) n W ∧ Below w.heap.size w W

set_option maxHeartbeats 8000000 in
set_option maxRecDepth 100000 in
theorem macro24 (s : ByteArray) (w : World) : Calls Tryz.prog 103 #[.string s] w (MacroP w) := by
  have hB : Below w.heap.size w (w.alloc (.cells macroL.flatten.toArray 59)) := (Below.refl _ w).alloc (Nat.le_refl _) _
  have HB := Lib.hid hB
  clear hB
  have H3 := Lib.hid (macro_row w 3 (by omega))
  have H4 := Lib.hid (macro_row w 4 (by omega))
  have H5 := Lib.hid (macro_row w 5 (by omega))
  by_cases t1 : (s.toList == [102, 97, 115, 116]) = true
  · go_enter Tryz.func103, Tryz.ntmps103
    go_wp2_with fail
    go_ret
    exact ⟨_, _, _, rfl, by omega, H3.out, HB.out⟩
  rw [Bool.not_eq_true] at t1
  by_cases t2 : (s.toList == [97, 108, 108]) = true
  · go_enter Tryz.func103, Tryz.ntmps103
    go_wp2_with fail
    go_ret
    exact ⟨_, _, _, rfl, by omega, H4.out, HB.out⟩
  rw [Bool.not_eq_true] at t2
  by_cases t3 : (s.toList == [102, 117, 108, 108]) = true
  · go_enter Tryz.func103, Tryz.ntmps103
    go_wp2_with fail
    go_ret
    exact ⟨_, _, _, rfl, by omega, H5.out, HB.out⟩
  rw [Bool.not_eq_true] at t3
  go_enter Tryz.func103, Tryz.ntmps103
  go_wp2_with fail
  go_ret
  exact ⟨_, _, _, rfl, by omega, Rowed.nil _, HB.out⟩

end Go.Proofs.YtjamgkcmpcnfpaaGreatDoor

/-
  The document's look at two commands.
-/
import Derived.Test.YtjamgkcmpcnfpaaGreatDoorS20
set_option linter.unusedVariables false
set_option linter.unusedSimpArgs false

namespace Go.Proofs.YtjamgkcmpcnfpaaGreatDoor
open Go.RowKit

set_option maxHeartbeats 64000000 in
set_option maxRecDepth 100000 in
theorem same_11 (cs1 cs2 : Array Value) (d1 d2 : CmdD) (w : World) (h1 : IsCmd w cs1 d1) (h2 : IsCmd w cs2 d2) : Calls Tryz.prog 11 #[.agg cs1, .agg cs2] w (EqP (CmdD.Eqv d1 d2) w) := by
  obtain ⟨sv1, iv1, fv1, kv1, rfl, RS1, RI1, RF1, RK1⟩ := h1
  obtain ⟨tg1, o1, u1, b1, ds1, s1, md1, qt1, fl1, dt1, nm1, bd1, it1, fe1, ky1⟩ := d1
  simp only [] at RS1 RI1 RF1 RK1
  obtain ⟨sA1, sC1, rfl⟩ := RS1.form
  obtain ⟨iA1, iC1, rfl⟩ := RI1.form
  obtain ⟨fA1, fC1, rfl⟩ := RF1.form
  obtain ⟨kA1, kC1, rfl⟩ := RK1.form
  obtain ⟨sv2, iv2, fv2, kv2, rfl, RS2, RI2, RF2, RK2⟩ := h2
  obtain ⟨tg2, o2, u2, b2, ds2, s2, md2, qt2, fl2, dt2, nm2, bd2, it2, fe2, ky2⟩ := d2
  simp only [] at RS2 RI2 RF2 RK2
  obtain ⟨sA2, sC2, rfl⟩ := RS2.form
  obtain ⟨iA2, iC2, rfl⟩ := RI2.form
  obtain ⟨fA2, fC2, rfl⟩ := RF2.form
  obtain ⟨kA2, kC2, rfl⟩ := RK2.form
  obtain ⟨hB0, X0, Y0⟩ := boxed w (cmdT tg1 o1 u1 b1 ds1 (.slice sA1 s1.n sC1) md1 qt1 fl1 dt1 nm1 bd1 (.slice iA1 it1.n iC1) (.slice fA1 fe1.n fC1) (.slice kA1 ky1.n kC1)) (cmdT tg2 o2 u2 b2 ds2 (.slice sA2 s2.n sC2) md2 qt2 fl2 dt2 nm2 bd2 (.slice iA2 it2.n iC2) (.slice fA2 fe2.n fC2) (.slice kA2 ky2.n kC2)) 31
  have RS10 := Lib.hid (RS1.below hB0 fun _ _ h => h)
  have RS20 := Lib.hid (RS2.below hB0 fun _ _ h => h)
  have RI10 := Lib.hid (RI1.below hB0 fun _ _ h => h)
  have RI20 := Lib.hid (RI2.below hB0 fun _ _ h => h)
  have RK10 := Lib.hid (RK1.below hB0 fun _ _ h => h.below hB0)
  have RK20 := Lib.hid (RK2.below hB0 fun _ _ h => h.below hB0)
  have RF10 := Lib.hid (RF1.below hB0 fun _ _ h => h.below hB0)
  have RF20 := Lib.hid (RF2.below hB0 fun _ _ h => h.below hB0)
  have HB0 := Lib.hid hB0
  have HX0 := Lib.hid X0
  have HY0 := Lib.hid Y0
  clear hB0 X0 Y0 RS1 RS2 RI1 RI2 RK1 RK2 RF1 RF2
  go_enter Tryz.func11, Tryz.ntmps11
  by_cases e0 : tg1 = tg2
  rotate_left
  · have ne0 : (tg1.toList == tg2.toList) = false := by rw [Bool.eq_false_iff]; exact fun hh => e0 ((bytes_eq _ _).1 hh)
    have E0 := Lib.hid e0
    clear e0
    go_wp2_with fail
    go_ret
    exact EqP.no (fun h => E0.out h.1) HB0.out
  subst e0
  by_cases e1 : o1 = o2
  rotate_left
  · have ne1 : (o1 == o2) = false := by simpa using e1
    have E1 := Lib.hid e1
    clear e1
    go_wp2_with fail
    go_ret
    exact EqP.no (fun h => E1.out h.2.1) HB0.out
  subst e1
  by_cases e2 : u1 = u2
  rotate_left
  · have ne2 : (u1 == u2) = false := by simpa using e2
    have E2 := Lib.hid e2
    clear e2
    go_wp2_with fail
    go_ret
    exact EqP.no (fun h => E2.out h.2.2.1) HB0.out
  subst e2
  by_cases e3 : b1 = b2
  rotate_left
  · have ne3 : (b1.toList == b2.toList) = false := by rw [Bool.eq_false_iff]; exact fun hh => e3 ((bytes_eq _ _).1 hh)
    have E3 := Lib.hid e3
    clear e3
    go_wp2_with fail
    go_ret
    exact EqP.no (fun h => E3.out h.2.2.2.1) HB0.out
  subst e3
  by_cases e4 : ds1 = ds2
  rotate_left
  · have ne4 : (ds1.toList == ds2.toList) = false := by rw [Bool.eq_false_iff]; exact fun hh => e4 ((bytes_eq _ _).1 hh)
    have E4 := Lib.hid e4
    clear e4
    go_wp2_with fail
    go_ret
    exact EqP.no (fun h => E4.out h.2.2.2.2.1) HB0.out
  subst e4
  go_wp2_with fail
  refine (same_16 _ _ s1 s2 _ RS10.out RS20.out).mono ?_
  rintro e w1 ⟨r1, rfl, hr1, hb1⟩
  have HX1 := Lib.hid (blk hb1 HX0.out)
  have HY1 := Lib.hid (blk hb1 HY0.out)
  have HB1 := Lib.hid (HB0.out.trans (hb1.mono HB0.out.size))
  have HR1 := Lib.hid hr1
  have RI11 := Lib.hid (RI10.out.below hb1 fun _ _ h => h)
  have RI21 := Lib.hid (RI20.out.below hb1 fun _ _ h => h)
  have RK11 := Lib.hid (RK10.out.below hb1 fun _ _ h => h.below hb1)
  have RK21 := Lib.hid (RK20.out.below hb1 fun _ _ h => h.below hb1)
  have RF11 := Lib.hid (RF10.out.below hb1 fun _ _ h => h.below hb1)
  have RF21 := Lib.hid (RF20.out.below hb1 fun _ _ h => h.below hb1)
  clear hb1 hr1
  cases r1
  · go_wp2_with fail
    go_ret
    exact EqP.no (fun h => absurd (HR1.out.2 h.2.2.2.2.2.1) (by decide)) HB1.out
  by_cases e6 : md1 = md2
  rotate_left
  · have ne6 : (md1 == md2) = false := by simpa using e6
    have E6 := Lib.hid e6
    clear e6
    have p1x6 := cell_hp HX1.out (j := 6) (v := .int .i64 md1) rfl
    have q1x6 := cell_hp HY1.out (j := 6) (v := .int .i64 md2) rfl
    have p1x7 := cell_hp HX1.out (j := 7) (v := .bool qt1) rfl
    have q1x7 := cell_hp HY1.out (j := 7) (v := .bool qt2) rfl
    have p1x8 := cell_hp HX1.out (j := 8) (v := .int .i64 fl1) rfl
    have q1x8 := cell_hp HY1.out (j := 8) (v := .int .i64 fl2) rfl
    have p1x9 := cell_hp HX1.out (j := 9) (v := .int .i64 dt1) rfl
    have q1x9 := cell_hp HY1.out (j := 9) (v := .int .i64 dt2) rfl
    have p1x10 := cell_hp HX1.out (j := 10) (v := .int .i64 nm1) rfl
    have q1x10 := cell_hp HY1.out (j := 10) (v := .int .i64 nm2) rfl
    have p1x11 := cell_hp HX1.out (j := 11) (v := .string bd1) rfl
    have q1x11 := cell_hp HY1.out (j := 11) (v := .string bd2) rfl
    have p1x12 := cell_hp HX1.out (j := 12) (v := .slice iA1 it1.n iC1) rfl
    have q1x12 := cell_hp HY1.out (j := 12) (v := .slice iA2 it2.n iC2) rfl
    go_wp2_with fail
    go_ret
    exact EqP.no (fun h => E6.out h.2.2.2.2.2.2.1) HB1.out
  subst e6
  by_cases e7 : qt1 = qt2
  rotate_left
  · have ne7 : (qt1 == qt2) = false := by simpa using e7
    have E7 := Lib.hid e7
    clear e7
    have p1x6 := cell_hp HX1.out (j := 6) (v := .int .i64 md1) rfl
    have q1x6 := cell_hp HY1.out (j := 6) (v := .int .i64 md1) rfl
    have p1x7 := cell_hp HX1.out (j := 7) (v := .bool qt1) rfl
    have q1x7 := cell_hp HY1.out (j := 7) (v := .bool qt2) rfl
    have p1x8 := cell_hp HX1.out (j := 8) (v := .int .i64 fl1) rfl
    have q1x8 := cell_hp HY1.out (j := 8) (v := .int .i64 fl2) rfl
    have p1x9 := cell_hp HX1.out (j := 9) (v := .int .i64 dt1) rfl
    have q1x9 := cell_hp HY1.out (j := 9) (v := .int .i64 dt2) rfl
    have p1x10 := cell_hp HX1.out (j := 10) (v := .int .i64 nm1) rfl
    have q1x10 := cell_hp HY1.out (j := 10) (v := .int .i64 nm2) rfl
    have p1x11 := cell_hp HX1.out (j := 11) (v := .string bd1) rfl
    have q1x11 := cell_hp HY1.out (j := 11) (v := .string bd2) rfl
    have p1x12 := cell_hp HX1.out (j := 12) (v := .slice iA1 it1.n iC1) rfl
    have q1x12 := cell_hp HY1.out (j := 12) (v := .slice iA2 it2.n iC2) rfl
    go_wp2_with fail
    go_ret
    exact EqP.no (fun h => E7.out h.2.2.2.2.2.2.2.1) HB1.out
  subst e7
  by_cases e8 : fl1 = fl2
  rotate_left
  · have ne8 : (fl1 == fl2) = false := by simpa using e8
    have E8 := Lib.hid e8
    clear e8
    have p1x6 := cell_hp HX1.out (j := 6) (v := .int .i64 md1) rfl
    have q1x6 := cell_hp HY1.out (j := 6) (v := .int .i64 md1) rfl
    have p1x7 := cell_hp HX1.out (j := 7) (v := .bool qt1) rfl
    have q1x7 := cell_hp HY1.out (j := 7) (v := .bool qt1) rfl
    have p1x8 := cell_hp HX1.out (j := 8) (v := .int .i64 fl1) rfl
    have q1x8 := cell_hp HY1.out (j := 8) (v := .int .i64 fl2) rfl
    have p1x9 := cell_hp HX1.out (j := 9) (v := .int .i64 dt1) rfl
    have q1x9 := cell_hp HY1.out (j := 9) (v := .int .i64 dt2) rfl
    have p1x10 := cell_hp HX1.out (j := 10) (v := .int .i64 nm1) rfl
    have q1x10 := cell_hp HY1.out (j := 10) (v := .int .i64 nm2) rfl
    have p1x11 := cell_hp HX1.out (j := 11) (v := .string bd1) rfl
    have q1x11 := cell_hp HY1.out (j := 11) (v := .string bd2) rfl
    have p1x12 := cell_hp HX1.out (j := 12) (v := .slice iA1 it1.n iC1) rfl
    have q1x12 := cell_hp HY1.out (j := 12) (v := .slice iA2 it2.n iC2) rfl
    go_wp2_with fail
    go_ret
    exact EqP.no (fun h => E8.out h.2.2.2.2.2.2.2.2.1) HB1.out
  subst e8
  by_cases e9 : dt1 = dt2
  rotate_left
  · have ne9 : (dt1 == dt2) = false := by simpa using e9
    have E9 := Lib.hid e9
    clear e9
    have p1x6 := cell_hp HX1.out (j := 6) (v := .int .i64 md1) rfl
    have q1x6 := cell_hp HY1.out (j := 6) (v := .int .i64 md1) rfl
    have p1x7 := cell_hp HX1.out (j := 7) (v := .bool qt1) rfl
    have q1x7 := cell_hp HY1.out (j := 7) (v := .bool qt1) rfl
    have p1x8 := cell_hp HX1.out (j := 8) (v := .int .i64 fl1) rfl
    have q1x8 := cell_hp HY1.out (j := 8) (v := .int .i64 fl1) rfl
    have p1x9 := cell_hp HX1.out (j := 9) (v := .int .i64 dt1) rfl
    have q1x9 := cell_hp HY1.out (j := 9) (v := .int .i64 dt2) rfl
    have p1x10 := cell_hp HX1.out (j := 10) (v := .int .i64 nm1) rfl
    have q1x10 := cell_hp HY1.out (j := 10) (v := .int .i64 nm2) rfl
    have p1x11 := cell_hp HX1.out (j := 11) (v := .string bd1) rfl
    have q1x11 := cell_hp HY1.out (j := 11) (v := .string bd2) rfl
    have p1x12 := cell_hp HX1.out (j := 12) (v := .slice iA1 it1.n iC1) rfl
    have q1x12 := cell_hp HY1.out (j := 12) (v := .slice iA2 it2.n iC2) rfl
    go_wp2_with fail
    go_ret
    exact EqP.no (fun h => E9.out h.2.2.2.2.2.2.2.2.2.1) HB1.out
  subst e9
  by_cases e10 : nm1 = nm2
  rotate_left
  · have ne10 : (nm1 == nm2) = false := by simpa using e10
    have E10 := Lib.hid e10
    clear e10
    have p1x6 := cell_hp HX1.out (j := 6) (v := .int .i64 md1) rfl
    have q1x6 := cell_hp HY1.out (j := 6) (v := .int .i64 md1) rfl
    have p1x7 := cell_hp HX1.out (j := 7) (v := .bool qt1) rfl
    have q1x7 := cell_hp HY1.out (j := 7) (v := .bool qt1) rfl
    have p1x8 := cell_hp HX1.out (j := 8) (v := .int .i64 fl1) rfl
    have q1x8 := cell_hp HY1.out (j := 8) (v := .int .i64 fl1) rfl
    have p1x9 := cell_hp HX1.out (j := 9) (v := .int .i64 dt1) rfl
    have q1x9 := cell_hp HY1.out (j := 9) (v := .int .i64 dt1) rfl
    have p1x10 := cell_hp HX1.out (j := 10) (v := .int .i64 nm1) rfl
    have q1x10 := cell_hp HY1.out (j := 10) (v := .int .i64 nm2) rfl
    have p1x11 := cell_hp HX1.out (j := 11) (v := .string bd1) rfl
    have q1x11 := cell_hp HY1.out (j := 11) (v := .string bd2) rfl
    have p1x12 := cell_hp HX1.out (j := 12) (v := .slice iA1 it1.n iC1) rfl
    have q1x12 := cell_hp HY1.out (j := 12) (v := .slice iA2 it2.n iC2) rfl
    go_wp2_with fail
    go_ret
    exact EqP.no (fun h => E10.out h.2.2.2.2.2.2.2.2.2.2.1) HB1.out
  subst e10
  by_cases e11 : bd1 = bd2
  rotate_left
  · have ne11 : (bd1.toList == bd2.toList) = false := by rw [Bool.eq_false_iff]; exact fun hh => e11 ((bytes_eq _ _).1 hh)
    have E11 := Lib.hid e11
    clear e11
    have p1x6 := cell_hp HX1.out (j := 6) (v := .int .i64 md1) rfl
    have q1x6 := cell_hp HY1.out (j := 6) (v := .int .i64 md1) rfl
    have p1x7 := cell_hp HX1.out (j := 7) (v := .bool qt1) rfl
    have q1x7 := cell_hp HY1.out (j := 7) (v := .bool qt1) rfl
    have p1x8 := cell_hp HX1.out (j := 8) (v := .int .i64 fl1) rfl
    have q1x8 := cell_hp HY1.out (j := 8) (v := .int .i64 fl1) rfl
    have p1x9 := cell_hp HX1.out (j := 9) (v := .int .i64 dt1) rfl
    have q1x9 := cell_hp HY1.out (j := 9) (v := .int .i64 dt1) rfl
    have p1x10 := cell_hp HX1.out (j := 10) (v := .int .i64 nm1) rfl
    have q1x10 := cell_hp HY1.out (j := 10) (v := .int .i64 nm1) rfl
    have p1x11 := cell_hp HX1.out (j := 11) (v := .string bd1) rfl
    have q1x11 := cell_hp HY1.out (j := 11) (v := .string bd2) rfl
    have p1x12 := cell_hp HX1.out (j := 12) (v := .slice iA1 it1.n iC1) rfl
    have q1x12 := cell_hp HY1.out (j := 12) (v := .slice iA2 it2.n iC2) rfl
    go_wp2_with fail
    go_ret
    exact EqP.no (fun h => E11.out h.2.2.2.2.2.2.2.2.2.2.2.1) HB1.out
  subst e11
  have p1x6 := cell_hp HX1.out (j := 6) (v := .int .i64 md1) rfl
  have q1x6 := cell_hp HY1.out (j := 6) (v := .int .i64 md1) rfl
  have p1x7 := cell_hp HX1.out (j := 7) (v := .bool qt1) rfl
  have q1x7 := cell_hp HY1.out (j := 7) (v := .bool qt1) rfl
  have p1x8 := cell_hp HX1.out (j := 8) (v := .int .i64 fl1) rfl
  have q1x8 := cell_hp HY1.out (j := 8) (v := .int .i64 fl1) rfl
  have p1x9 := cell_hp HX1.out (j := 9) (v := .int .i64 dt1) rfl
  have q1x9 := cell_hp HY1.out (j := 9) (v := .int .i64 dt1) rfl
  have p1x10 := cell_hp HX1.out (j := 10) (v := .int .i64 nm1) rfl
  have q1x10 := cell_hp HY1.out (j := 10) (v := .int .i64 nm1) rfl
  have p1x11 := cell_hp HX1.out (j := 11) (v := .string bd1) rfl
  have q1x11 := cell_hp HY1.out (j := 11) (v := .string bd1) rfl
  have p1x12 := cell_hp HX1.out (j := 12) (v := .slice iA1 it1.n iC1) rfl
  have q1x12 := cell_hp HY1.out (j := 12) (v := .slice iA2 it2.n iC2) rfl
  go_wp2_with fail
  refine (same_25 _ _ it1 it2 _ RI11.out RI21.out).mono ?_
  rintro e w2 ⟨r2, rfl, hr2, hb2⟩
  clear p1x6 q1x6 p1x7 q1x7 p1x8 q1x8 p1x9 q1x9 p1x10 q1x10 p1x11 q1x11 p1x12 q1x12
  have HX2 := Lib.hid (blk hb2 HX1.out)
  have HY2 := Lib.hid (blk hb2 HY1.out)
  have HB2 := Lib.hid (HB1.out.trans (hb2.mono HB1.out.size))
  have HR2 := Lib.hid hr2
  have RK12 := Lib.hid (RK11.out.below hb2 fun _ _ h => h.below hb2)
  have RK22 := Lib.hid (RK21.out.below hb2 fun _ _ h => h.below hb2)
  have RF12 := Lib.hid (RF11.out.below hb2 fun _ _ h => h.below hb2)
  have RF22 := Lib.hid (RF21.out.below hb2 fun _ _ h => h.below hb2)
  clear hb2 hr2
  cases r2
  · go_wp2_with fail
    go_ret
    exact EqP.no (fun h => absurd (HR2.out.2 h.2.2.2.2.2.2.2.2.2.2.2.2.1) (by decide)) HB2.out
  by_cases e13 : fe1.n = fe2.n
  rotate_left
  · have ne13 : ((fe1.n : Int) != (fe2.n : Int)) = true := by simp; omega
    have E13 := Lib.hid e13
    clear e13
    have p2x13 := cell_hp HX2.out (j := 13) (v := .slice fA1 fe1.n fC1) rfl
    have q2x13 := cell_hp HY2.out (j := 13) (v := .slice fA2 fe2.n fC2) rfl
    have p2x14 := cell_hp HX2.out (j := 14) (v := .slice kA1 ky1.n kC1) rfl
    have q2x14 := cell_hp HY2.out (j := 14) (v := .slice kA2 ky2.n kC2) rfl
    go_wp2_with fail
    go_ret
    exact EqP.no (fun h => E13.out h.2.2.2.2.2.2.2.2.2.2.2.2.2.1.1) HB2.out
  have eq13 : ((fe1.n : Int) != (fe2.n : Int)) = false := by simp [e13]
  have EN := Lib.hid e13
  clear e13
  have p2x13 := cell_hp HX2.out (j := 13) (v := .slice fA1 fe1.n fC1) rfl
  have q2x13 := cell_hp HY2.out (j := 13) (v := .slice fA2 fe2.n fC2) rfl
  have p2x14 := cell_hp HX2.out (j := 14) (v := .slice kA1 ky1.n kC1) rfl
  have q2x14 := cell_hp HY2.out (j := 14) (v := .slice kA2 ky2.n kC2) rfl
  go_wp2_with fail
  refine (same_26 _ _ ky1 ky2 _ RK12.out RK22.out).mono ?_
  rintro e w3 ⟨r3, rfl, hr3, hb3⟩
  clear p2x13 q2x13 p2x14 q2x14
  have HX3 := Lib.hid (blk hb3 HX2.out)
  have HY3 := Lib.hid (blk hb3 HY2.out)
  have HB3 := Lib.hid (HB2.out.trans (hb3.mono HB2.out.size))
  have HR3 := Lib.hid hr3
  have RF13 := Lib.hid (RF12.out.below hb3 fun _ _ h => h.below hb3)
  have RF23 := Lib.hid (RF22.out.below hb3 fun _ _ h => h.below hb3)
  clear hb3 hr3
  cases r3
  · go_wp2_with fail
    go_ret
    exact EqP.no (fun h => absurd (HR3.out.2 h.2.2.2.2.2.2.2.2.2.2.2.2.2.2) (by decide)) HB3.out
  go_wp2_with fail
  go_loopw [5] (fun x wr => EqFR ItemD.Eqv fe1 fe2 w3 x wr) (fun x _ => fe1.n - (intOf x).toNat)
  case atStart => exact ⟨0, by omega, fun j hj => absurd hj (by omega), rfl, Below.refl _ _⟩
  case round =>
    obtain ⟨k, hk, hall, rfl, hb⟩ := hrel
    have Hall := Lib.hid hall
    have HBT := HB3
    have HBr := Lib.hid hb
    have hX := blk hb HX3.out
    have hY := blk hb HY3.out
    have hXl := (Array.getElem?_eq_some_iff.1 hY).1
    have x13 := cell_hp hX (j := 13) (v := .slice fA1 fe1.n fC1) rfl
    have y13 := cell_hp hY (j := 13) (v := .slice fA2 fe2.n fC2) rfl
    clear hall hX hY
    by_cases hlt : k < fe1.n
    · have hlt2 : k < fe2.n := by have := EN.out; omega
      obtain ⟨_, B1, C1', e1, hi1⟩ := RF13.out.below hb (fun _ _ h => h.below hb)
      obtain ⟨_, B2, C2', e2, hi2⟩ := RF23.out.below hb (fun _ _ h => h.below hb)
      simp only [Value.slice.injEq] at e1 e2
      obtain ⟨rfl, _, rfl⟩ := e1
      obtain ⟨rfl, _, rfl⟩ := e2
      obtain ⟨g1, z1, rfl, hg1, hM1, hc1⟩ := hi1 k hlt
      obtain ⟨g2, z2, rfl, hg2, hM2, hc2⟩ := hi2 k hlt2
      clear hb hi1 hi2
      obtain ⟨D1, hD1⟩ : ∃ D, D = fe1.f k := ⟨_, rfl⟩
      obtain ⟨D2, hD2⟩ : ∃ D, D = fe2.f k := ⟨_, rfl⟩
      rw [← hD1] at hM1
      rw [← hD2] at hM2
      have hD1 := Lib.hid hD1
      have hD2 := Lib.hid hD2
      obtain ⟨pv1, nv1, rfl, RP1, RN1⟩ := hM1
      obtain ⟨k1, q1, ⟨p1, wh1, n1, c1, f1, m1⟩⟩ := D1
      simp only [] at RP1 RN1
      obtain ⟨pA1, pC1, rfl⟩ := RP1.form
      obtain ⟨nA1, nC1, rfl⟩ := RN1.form
      have RZ1 : IsSec wr (secC (.slice pA1 p1.n pC1) wh1 (.slice nA1 n1.n nC1) c1 f1 m1) ⟨p1, wh1, n1, c1, f1, m1⟩ := ⟨_, _, rfl, RP1, RN1⟩
      clear RP1 RN1
      obtain ⟨pv2, nv2, rfl, RP2, RN2⟩ := hM2
      obtain ⟨k2, q2, ⟨p2, wh2, n2, c2, f2, m2⟩⟩ := D2
      simp only [] at RP2 RN2
      obtain ⟨pA2, pC2, rfl⟩ := RP2.form
      obtain ⟨nA2, nC2, rfl⟩ := RN2.form
      have RZ2 : IsSec wr (secC (.slice pA2 p2.n pC2) wh2 (.slice nA2 n2.n nC2) c2 f2 m2) ⟨p2, wh2, n2, c2, f2, m2⟩ := ⟨_, _, rfl, RP2, RN2⟩
      clear RP2 RN2
      have u0 := hc1 0 _ rfl
      have z0 := hc2 0 _ rfl
      have u1 := hc1 1 _ rfl
      have z1 := hc2 1 _ rfl
      have u2 := hc1 2 _ rfl
      have z2 := hc2 2 _ rfl
      have u3 := hc1 3 _ rfl
      have z3 := hc2 3 _ rfl
      have u4 := hc1 4 _ rfl
      have z4 := hc2 4 _ rfl
      have u5 := hc1 5 _ rfl
      have z5 := hc2 5 _ rfl
      have u6 := hc1 6 _ rfl
      have z6 := hc2 6 _ rfl
      have u7 := hc1 7 _ rfl
      have z7 := hc2 7 _ rfl
      rw [Nat.add_zero] at u0 z0
      clear hc1 hc2
      have hne1 : g1 ≠ wr.heap.size := by omega
      have hne2 : g2 ≠ wr.heap.size := by omega
      have hne3 : g1 ≠ wr.heap.size + 1 := by omega
      have hne4 : g2 ≠ wr.heap.size + 1 := by omega
      have hne5 : w.heap.size ≠ wr.heap.size := by omega
      have hne6 : w.heap.size + 1 ≠ wr.heap.size := by omega
      have hne7 : w.heap.size ≠ wr.heap.size + 1 := by omega
      go_wp2_with fail
      go_region_held3 (fun w' => w'.cell? ⟨g1, k * 8, none⟩ = some (.int .i64 k1) ∧ w'.cell? ⟨g1, k * 8 + 1, none⟩ = some (.bool q1) ∧ w'.cell? ⟨g1, k * 8 + 2, none⟩ = some (.slice pA1 p1.n pC1) ∧ w'.cell? ⟨g1, k * 8 + 3, none⟩ = some (.int .i64 wh1) ∧ w'.cell? ⟨g1, k * 8 + 4, none⟩ = some (.slice nA1 n1.n nC1) ∧ w'.cell? ⟨g1, k * 8 + 5, none⟩ = some (.bool c1) ∧ w'.cell? ⟨g1, k * 8 + 6, none⟩ = some (.int .i64 f1) ∧ w'.cell? ⟨g1, k * 8 + 7, none⟩ = some (.int .i64 m1) ∧ w'.cell? ⟨g2, k * 8, none⟩ = some (.int .i64 k2) ∧ w'.cell? ⟨g2, k * 8 + 1, none⟩ = some (.bool q2) ∧ w'.cell? ⟨g2, k * 8 + 2, none⟩ = some (.slice pA2 p2.n pC2) ∧ w'.cell? ⟨g2, k * 8 + 3, none⟩ = some (.int .i64 wh2) ∧ w'.cell? ⟨g2, k * 8 + 4, none⟩ = some (.slice nA2 n2.n nC2) ∧ w'.cell? ⟨g2, k * 8 + 5, none⟩ = some (.bool c2) ∧ w'.cell? ⟨g2, k * 8 + 6, none⟩ = some (.int .i64 f2) ∧ w'.cell? ⟨g2, k * 8 + 7, none⟩ = some (.int .i64 m2) ∧ w'.cell? ⟨w.heap.size, 13, none⟩ = some (.slice (some ⟨g1, 0, none⟩) fe1.n fC1) ∧ w'.cell? ⟨w.heap.size + 1, 13, none⟩ = some (.slice (some ⟨g2, 0, none⟩) fe2.n fC2)) (first | exact ⟨u0, u1, u2, u3, u4, u5, u6, u7, z0, z1, z2, z3, z4, z5, z6, z7, x13, y13⟩ | go_keep) (fail)
      · refine gen_exit (Q := fun W : World => Below wr.heap.size wr W ∧ W.heap[wr.heap.size]? = some (.cells (itC k1 q1 (.slice pA1 p1.n pC1) wh1 (.slice nA1 n1.n nC1) c1 f1 m1) 59 (0, 0)) ∧ W.heap[wr.heap.size + 1]? = some (.cells (itC k2 q2 (.slice pA2 p2.n pC2) wh2 (.slice nA2 n2.n nC2) c2 f2 m2) 59 (0, 0))) ⟨(boxed wr (itC k1 q1 (.slice pA1 p1.n pC1) wh1 (.slice nA1 n1.n nC1) c1 f1 m1) (itC k2 q2 (.slice pA2 p2.n pC2) wh2 (.slice nA2 n2.n nC2) c2 f2 m2) 59).1.drew, (boxed wr (itC k1 q1 (.slice pA1 p1.n pC1) wh1 (.slice nA1 n1.n nC1) c1 f1 m1) (itC k2 q2 (.slice pA2 p2.n pC2) wh2 (.slice nA2 n2.n nC2) c2 f2 m2) 59).2⟩ ?_
        rintro W ⟨hb1, hx, hy⟩
        have RZ10 := Lib.hid (RZ1.below hb1)
        have RZ20 := Lib.hid (RZ2.below hb1)
        have HX0 := Lib.hid hx
        have HY0 := Lib.hid hy
        have HB0 := Lib.hid (HBr.out.trans (hb1.mono HBr.out.size))
        clear hb1 hx hy RZ1 RZ2 x13 y13 u0 z0 u1 z1 u2 z2 u3 z3 u4 z4 u5 z5 u6 z6 u7 z7
        by_cases e0 : k1 = k2
        rotate_left
        · have ne0 : (k1 == k2) = false := by simpa using e0
          have E0 := Lib.hid e0
          clear e0
          have p0x0 := cell_hp HX0.out (j := 0) (v := .int .i64 k1) rfl
          have q0x0 := cell_hp HY0.out (j := 0) (v := .int .i64 k2) rfl
          have p0x1 := cell_hp HX0.out (j := 1) (v := .bool q1) rfl
          have q0x1 := cell_hp HY0.out (j := 1) (v := .bool q2) rfl
          have p0x2 := cell_hp HX0.out (j := 2) (v := .slice pA1 p1.n pC1) rfl
          have q0x2 := cell_hp HY0.out (j := 2) (v := .slice pA2 p2.n pC2) rfl
          have p0x3 := cell_hp HX0.out (j := 3) (v := .int .i64 wh1) rfl
          have q0x3 := cell_hp HY0.out (j := 3) (v := .int .i64 wh2) rfl
          have p0x4 := cell_hp HX0.out (j := 4) (v := .slice nA1 n1.n nC1) rfl
          have q0x4 := cell_hp HY0.out (j := 4) (v := .slice nA2 n2.n nC2) rfl
          have p0x5 := cell_hp HX0.out (j := 5) (v := .bool c1) rfl
          have q0x5 := cell_hp HY0.out (j := 5) (v := .bool c2) rfl
          have p0x6 := cell_hp HX0.out (j := 6) (v := .int .i64 f1) rfl
          have q0x6 := cell_hp HY0.out (j := 6) (v := .int .i64 f2) rfl
          have p0x7 := cell_hp HX0.out (j := 7) (v := .int .i64 m1) rfl
          have q0x7 := cell_hp HY0.out (j := 7) (v := .int .i64 m2) rfl
          go_wp2_with fail
          go_ret
          exact EqP.no (fun hh => by have h := hh.2.2.2.2.2.2.2.2.2.2.2.2.2.1.2 k hlt; rw [← hD1.out, ← hD2.out] at h; exact E0.out h.1) (HBT.out.trans (HB0.out.mono HBT.out.size))
        subst e0
        by_cases e1 : q1 = q2
        rotate_left
        · have ne1 : (q1 == q2) = false := by simpa using e1
          have E1 := Lib.hid e1
          clear e1
          have p0x0 := cell_hp HX0.out (j := 0) (v := .int .i64 k1) rfl
          have q0x0 := cell_hp HY0.out (j := 0) (v := .int .i64 k1) rfl
          have p0x1 := cell_hp HX0.out (j := 1) (v := .bool q1) rfl
          have q0x1 := cell_hp HY0.out (j := 1) (v := .bool q2) rfl
          have p0x2 := cell_hp HX0.out (j := 2) (v := .slice pA1 p1.n pC1) rfl
          have q0x2 := cell_hp HY0.out (j := 2) (v := .slice pA2 p2.n pC2) rfl
          have p0x3 := cell_hp HX0.out (j := 3) (v := .int .i64 wh1) rfl
          have q0x3 := cell_hp HY0.out (j := 3) (v := .int .i64 wh2) rfl
          have p0x4 := cell_hp HX0.out (j := 4) (v := .slice nA1 n1.n nC1) rfl
          have q0x4 := cell_hp HY0.out (j := 4) (v := .slice nA2 n2.n nC2) rfl
          have p0x5 := cell_hp HX0.out (j := 5) (v := .bool c1) rfl
          have q0x5 := cell_hp HY0.out (j := 5) (v := .bool c2) rfl
          have p0x6 := cell_hp HX0.out (j := 6) (v := .int .i64 f1) rfl
          have q0x6 := cell_hp HY0.out (j := 6) (v := .int .i64 f2) rfl
          have p0x7 := cell_hp HX0.out (j := 7) (v := .int .i64 m1) rfl
          have q0x7 := cell_hp HY0.out (j := 7) (v := .int .i64 m2) rfl
          go_wp2_with fail
          go_ret
          exact EqP.no (fun hh => by have h := hh.2.2.2.2.2.2.2.2.2.2.2.2.2.1.2 k hlt; rw [← hD1.out, ← hD2.out] at h; exact E1.out h.2.1) (HBT.out.trans (HB0.out.mono HBT.out.size))
        subst e1
        have p0x0 := cell_hp HX0.out (j := 0) (v := .int .i64 k1) rfl
        have q0x0 := cell_hp HY0.out (j := 0) (v := .int .i64 k1) rfl
        have p0x1 := cell_hp HX0.out (j := 1) (v := .bool q1) rfl
        have q0x1 := cell_hp HY0.out (j := 1) (v := .bool q1) rfl
        have p0x2 := cell_hp HX0.out (j := 2) (v := .slice pA1 p1.n pC1) rfl
        have q0x2 := cell_hp HY0.out (j := 2) (v := .slice pA2 p2.n pC2) rfl
        have p0x3 := cell_hp HX0.out (j := 3) (v := .int .i64 wh1) rfl
        have q0x3 := cell_hp HY0.out (j := 3) (v := .int .i64 wh2) rfl
        have p0x4 := cell_hp HX0.out (j := 4) (v := .slice nA1 n1.n nC1) rfl
        have q0x4 := cell_hp HY0.out (j := 4) (v := .slice nA2 n2.n nC2) rfl
        have p0x5 := cell_hp HX0.out (j := 5) (v := .bool c1) rfl
        have q0x5 := cell_hp HY0.out (j := 5) (v := .bool c2) rfl
        have p0x6 := cell_hp HX0.out (j := 6) (v := .int .i64 f1) rfl
        have q0x6 := cell_hp HY0.out (j := 6) (v := .int .i64 f2) rfl
        have p0x7 := cell_hp HX0.out (j := 7) (v := .int .i64 m1) rfl
        have q0x7 := cell_hp HY0.out (j := 7) (v := .int .i64 m2) rfl
        go_wp2_with fail
        refine (same_27 _ _ ⟨p1, wh1, n1, c1, f1, m1⟩ ⟨p2, wh2, n2, c2, f2, m2⟩ _ RZ10.out RZ20.out).mono ?_
        rintro e w1 ⟨r1, rfl, hr1, hb1⟩
        clear p0x0 q0x0 p0x1 q0x1 p0x2 q0x2 p0x3 q0x3 p0x4 q0x4 p0x5 q0x5 p0x6 q0x6 p0x7 q0x7
        have HX1 := Lib.hid (blk hb1 HX0.out)
        have HY1 := Lib.hid (blk hb1 HY0.out)
        have HB1 := Lib.hid (HB0.out.trans (hb1.mono HB0.out.size))
        have HR1 := Lib.hid hr1
        clear hb1 hr1
        cases r1
        · go_wp2_with fail
          go_ret
          exact EqP.no (fun hh => by have h := hh.2.2.2.2.2.2.2.2.2.2.2.2.2.1.2 k hlt; rw [← hD1.out, ← hD2.out] at h; exact absurd (HR1.out.2 h.2.2) (by decide)) (HBT.out.trans (HB1.out.mono HBT.out.size))
        go_wp2_with fail
        go_roundw
        case rel => exact ⟨k + 1, by omega, fun j hj => by
          by_cases ej : j = k
          · subst ej; rw [← hD1.out, ← hD2.out]; exact ⟨rfl, rfl, HR1.out.1 (by simp)⟩
          · exact Hall.out j (by omega), by go_num, HB1.out⟩
        case measure => simp [intOf]; omega
      · refine gen_exit (Q := fun W : World => Below wr.heap.size wr W ∧ W.heap[wr.heap.size]? = some (.cells (itC k2 q2 (.slice pA2 p2.n pC2) wh2 (.slice nA2 n2.n nC2) c2 f2 m2) 59 (0, 0)) ∧ W.heap[wr.heap.size + 1]? = some (.cells (itC k1 q1 (.slice pA1 p1.n pC1) wh1 (.slice nA1 n1.n nC1) c1 f1 m1) 59 (0, 0))) ⟨(boxed wr (itC k2 q2 (.slice pA2 p2.n pC2) wh2 (.slice nA2 n2.n nC2) c2 f2 m2) (itC k1 q1 (.slice pA1 p1.n pC1) wh1 (.slice nA1 n1.n nC1) c1 f1 m1) 59).1.drew, (boxed wr (itC k2 q2 (.slice pA2 p2.n pC2) wh2 (.slice nA2 n2.n nC2) c2 f2 m2) (itC k1 q1 (.slice pA1 p1.n pC1) wh1 (.slice nA1 n1.n nC1) c1 f1 m1) 59).2⟩ ?_
        rintro W ⟨hb1, hy, hx⟩
        have RZ10 := Lib.hid (RZ1.below hb1)
        have RZ20 := Lib.hid (RZ2.below hb1)
        have HX0 := Lib.hid hx
        have HY0 := Lib.hid hy
        have HB0 := Lib.hid (HBr.out.trans (hb1.mono HBr.out.size))
        clear hb1 hx hy RZ1 RZ2 x13 y13 u0 z0 u1 z1 u2 z2 u3 z3 u4 z4 u5 z5 u6 z6 u7 z7
        by_cases e0 : k1 = k2
        rotate_left
        · have ne0 : (k1 == k2) = false := by simpa using e0
          have E0 := Lib.hid e0
          clear e0
          have p0x0 := cell_hp HX0.out (j := 0) (v := .int .i64 k1) rfl
          have q0x0 := cell_hp HY0.out (j := 0) (v := .int .i64 k2) rfl
          have p0x1 := cell_hp HX0.out (j := 1) (v := .bool q1) rfl
          have q0x1 := cell_hp HY0.out (j := 1) (v := .bool q2) rfl
          have p0x2 := cell_hp HX0.out (j := 2) (v := .slice pA1 p1.n pC1) rfl
          have q0x2 := cell_hp HY0.out (j := 2) (v := .slice pA2 p2.n pC2) rfl
          have p0x3 := cell_hp HX0.out (j := 3) (v := .int .i64 wh1) rfl
          have q0x3 := cell_hp HY0.out (j := 3) (v := .int .i64 wh2) rfl
          have p0x4 := cell_hp HX0.out (j := 4) (v := .slice nA1 n1.n nC1) rfl
          have q0x4 := cell_hp HY0.out (j := 4) (v := .slice nA2 n2.n nC2) rfl
          have p0x5 := cell_hp HX0.out (j := 5) (v := .bool c1) rfl
          have q0x5 := cell_hp HY0.out (j := 5) (v := .bool c2) rfl
          have p0x6 := cell_hp HX0.out (j := 6) (v := .int .i64 f1) rfl
          have q0x6 := cell_hp HY0.out (j := 6) (v := .int .i64 f2) rfl
          have p0x7 := cell_hp HX0.out (j := 7) (v := .int .i64 m1) rfl
          have q0x7 := cell_hp HY0.out (j := 7) (v := .int .i64 m2) rfl
          go_wp2_with fail
          go_ret
          exact EqP.no (fun hh => by have h := hh.2.2.2.2.2.2.2.2.2.2.2.2.2.1.2 k hlt; rw [← hD1.out, ← hD2.out] at h; exact E0.out h.1) (HBT.out.trans (HB0.out.mono HBT.out.size))
        subst e0
        by_cases e1 : q1 = q2
        rotate_left
        · have ne1 : (q1 == q2) = false := by simpa using e1
          have E1 := Lib.hid e1
          clear e1
          have p0x0 := cell_hp HX0.out (j := 0) (v := .int .i64 k1) rfl
          have q0x0 := cell_hp HY0.out (j := 0) (v := .int .i64 k1) rfl
          have p0x1 := cell_hp HX0.out (j := 1) (v := .bool q1) rfl
          have q0x1 := cell_hp HY0.out (j := 1) (v := .bool q2) rfl
          have p0x2 := cell_hp HX0.out (j := 2) (v := .slice pA1 p1.n pC1) rfl
          have q0x2 := cell_hp HY0.out (j := 2) (v := .slice pA2 p2.n pC2) rfl
          have p0x3 := cell_hp HX0.out (j := 3) (v := .int .i64 wh1) rfl
          have q0x3 := cell_hp HY0.out (j := 3) (v := .int .i64 wh2) rfl
          have p0x4 := cell_hp HX0.out (j := 4) (v := .slice nA1 n1.n nC1) rfl
          have q0x4 := cell_hp HY0.out (j := 4) (v := .slice nA2 n2.n nC2) rfl
          have p0x5 := cell_hp HX0.out (j := 5) (v := .bool c1) rfl
          have q0x5 := cell_hp HY0.out (j := 5) (v := .bool c2) rfl
          have p0x6 := cell_hp HX0.out (j := 6) (v := .int .i64 f1) rfl
          have q0x6 := cell_hp HY0.out (j := 6) (v := .int .i64 f2) rfl
          have p0x7 := cell_hp HX0.out (j := 7) (v := .int .i64 m1) rfl
          have q0x7 := cell_hp HY0.out (j := 7) (v := .int .i64 m2) rfl
          go_wp2_with fail
          go_ret
          exact EqP.no (fun hh => by have h := hh.2.2.2.2.2.2.2.2.2.2.2.2.2.1.2 k hlt; rw [← hD1.out, ← hD2.out] at h; exact E1.out h.2.1) (HBT.out.trans (HB0.out.mono HBT.out.size))
        subst e1
        have p0x0 := cell_hp HX0.out (j := 0) (v := .int .i64 k1) rfl
        have q0x0 := cell_hp HY0.out (j := 0) (v := .int .i64 k1) rfl
        have p0x1 := cell_hp HX0.out (j := 1) (v := .bool q1) rfl
        have q0x1 := cell_hp HY0.out (j := 1) (v := .bool q1) rfl
        have p0x2 := cell_hp HX0.out (j := 2) (v := .slice pA1 p1.n pC1) rfl
        have q0x2 := cell_hp HY0.out (j := 2) (v := .slice pA2 p2.n pC2) rfl
        have p0x3 := cell_hp HX0.out (j := 3) (v := .int .i64 wh1) rfl
        have q0x3 := cell_hp HY0.out (j := 3) (v := .int .i64 wh2) rfl
        have p0x4 := cell_hp HX0.out (j := 4) (v := .slice nA1 n1.n nC1) rfl
        have q0x4 := cell_hp HY0.out (j := 4) (v := .slice nA2 n2.n nC2) rfl
        have p0x5 := cell_hp HX0.out (j := 5) (v := .bool c1) rfl
        have q0x5 := cell_hp HY0.out (j := 5) (v := .bool c2) rfl
        have p0x6 := cell_hp HX0.out (j := 6) (v := .int .i64 f1) rfl
        have q0x6 := cell_hp HY0.out (j := 6) (v := .int .i64 f2) rfl
        have p0x7 := cell_hp HX0.out (j := 7) (v := .int .i64 m1) rfl
        have q0x7 := cell_hp HY0.out (j := 7) (v := .int .i64 m2) rfl
        go_wp2_with fail
        refine (same_27 _ _ ⟨p1, wh1, n1, c1, f1, m1⟩ ⟨p2, wh2, n2, c2, f2, m2⟩ _ RZ10.out RZ20.out).mono ?_
        rintro e w1 ⟨r1, rfl, hr1, hb1⟩
        clear p0x0 q0x0 p0x1 q0x1 p0x2 q0x2 p0x3 q0x3 p0x4 q0x4 p0x5 q0x5 p0x6 q0x6 p0x7 q0x7
        have HX1 := Lib.hid (blk hb1 HX0.out)
        have HY1 := Lib.hid (blk hb1 HY0.out)
        have HB1 := Lib.hid (HB0.out.trans (hb1.mono HB0.out.size))
        have HR1 := Lib.hid hr1
        clear hb1 hr1
        cases r1
        · go_wp2_with fail
          go_ret
          exact EqP.no (fun hh => by have h := hh.2.2.2.2.2.2.2.2.2.2.2.2.2.1.2 k hlt; rw [← hD1.out, ← hD2.out] at h; exact absurd (HR1.out.2 h.2.2) (by decide)) (HBT.out.trans (HB1.out.mono HBT.out.size))
        go_wp2_with fail
        go_roundw
        case rel => exact ⟨k + 1, by omega, fun j hj => by
          by_cases ej : j = k
          · subst ej; rw [← hD1.out, ← hD2.out]; exact ⟨rfl, rfl, HR1.out.1 (by simp)⟩
          · exact Hall.out j (by omega), by go_num, HB1.out⟩
        case measure => simp [intOf]; omega
    · clear hb
      go_wp2_with fail
      go_ret
      exact EqP.yes ⟨rfl, rfl, rfl, rfl, rfl, HR1.out.1 (by simp), rfl, rfl, rfl, rfl, rfl, rfl, HR2.out.1 (by simp), ⟨EN.out, fun i hi => Hall.out i (by have hi2 : i < fe1.n := hi; omega)⟩, HR3.out.1 (by simp)⟩ (HBT.out.trans (HBr.out.mono HBT.out.size))

end Go.Proofs.YtjamgkcmpcnfpaaGreatDoor

/-
  The program's look at two commands.
-/
import Derived.Test.YtjamgkcmpcnfpaaGreatDoorS18
import Derived.Test.YtjamgkcmpcnfpaaGreatDoorS19
set_option linter.unusedVariables false
set_option linter.unusedSimpArgs false

namespace Go.Proofs.YtjamgkcmpcnfpaaGreatDoor
open Go.RowKit

/-- What a command holds. -/
structure CmdD where
  tag : ByteArray
  op : Int
  uid : Bool
  box : ByteArray
  dest : ByteArray
  set : RowD (Int × Int)
  mode : Int
  quiet : Bool
  flags : Int
  date : Int
  num : Int
  body : ByteArray
  items : RowD Int
  fetch : RowD ItemD
  keys : RowD KeyD

def CmdD.Eqv (a b : CmdD) : Prop :=
  a.tag = b.tag ∧ a.op = b.op ∧ a.uid = b.uid ∧ a.box = b.box ∧ a.dest = b.dest ∧ RowD.Eqv Eq a.set b.set ∧ a.mode = b.mode ∧ a.quiet = b.quiet ∧ a.flags = b.flags ∧ a.date = b.date ∧ a.num = b.num ∧ a.body = b.body ∧
    RowD.Eqv Eq a.items b.items ∧ RowD.Eqv ItemD.Eqv a.fetch b.fetch ∧ RowD.Eqv KeyD.Eqv a.keys b.keys

theorem CmdD.Eqv.refl (a : CmdD) : CmdD.Eqv a a :=
  ⟨rfl, rfl, rfl, rfl, rfl, ⟨rfl, fun _ _ => rfl⟩, rfl, rfl, rfl, rfl, rfl, rfl, ⟨rfl, fun _ _ => rfl⟩, ⟨rfl, fun _ _ => ⟨rfl, rfl, ⟨rfl, fun _ _ => rfl⟩, rfl, ⟨rfl, fun _ _ => rfl⟩, rfl, rfl, rfl⟩⟩, ⟨rfl, fun _ _ => ⟨rfl, rfl, rfl, rfl, ⟨rfl, fun _ _ => rfl⟩, rfl, rfl⟩⟩⟩

def IsCmd (W : World) (cs : Array Value) (d : CmdD) : Prop :=
  ∃ sv iv fv kv, cs = cmdT d.tag d.op d.uid d.box d.dest sv d.mode d.quiet d.flags d.date d.num d.body iv fv kv ∧ IsRow W 2 MTwo sv d.set ∧ IsRow W 1 MInt iv d.items ∧ IsRow W 8 IsItem fv d.fetch ∧ IsRow W 7 IsKey kv d.keys

theorem IsCmd.below {W W' : World} {cs : Array Value} {d : CmdD} (h : IsCmd W cs d) (hb : Below W.heap.size W W') : IsCmd W' cs d := by
  obtain ⟨sv, iv, fv, kv, rfl, h1, h2, h3, h4⟩ := h
  exact ⟨sv, iv, fv, kv, rfl, h1.below hb fun _ _ h => h, h2.below hb fun _ _ h => h, h3.below hb fun _ _ h => h.below hb, h4.below hb fun _ _ h => h.below hb⟩

set_option maxHeartbeats 64000000 in
set_option maxRecDepth 100000 in
theorem same_19 (cs1 cs2 : Array Value) (d1 d2 : CmdD) (w : World) (h1 : IsCmd w cs1 d1) (h2 : IsCmd w cs2 d2) : Calls Tryz.prog 19 #[.agg cs1, .agg cs2] w (EqP (CmdD.Eqv d1 d2) w) := by
  obtain ⟨sv1, iv1, fv1, kv1, rfl, RS1, RI1, RF1, RK1⟩ := h1
  obtain ⟨tg1, o1, u1, b1, ds1, s1, md1, qt1, fl1, dt1, nm1, bd1, it1, fe1, ky1⟩ := d1
  simp only [] at RS1 RI1 RF1 RK1
  obtain ⟨sA1, sC1, rfl⟩ := RS1.form
  obtain ⟨iA1, iC1, rfl⟩ := RI1.form
  obtain ⟨fA1, fC1, rfl⟩ := RF1.form
  obtain ⟨kA1, kC1, rfl⟩ := RK1.form
  obtain ⟨sv2, iv2, fv2, kv2, rfl, RS2, RI2, RF2, RK2⟩ := h2
  obtain ⟨tg2, o2, u2, b2, ds2, s2, md2, qt2, fl2, dt2, nm2, bd2, it2, fe2, ky2⟩ := d2
  simp only [] at RS2 RI2 RF2 RK2
  obtain ⟨sA2, sC2, rfl⟩ := RS2.form
  obtain ⟨iA2, iC2, rfl⟩ := RI2.form
  obtain ⟨fA2, fC2, rfl⟩ := RF2.form
  obtain ⟨kA2, kC2, rfl⟩ := RK2.form
  obtain ⟨hB0, X0, Y0⟩ := boxed w (cmdT tg1 o1 u1 b1 ds1 (.slice sA1 s1.n sC1) md1 qt1 fl1 dt1 nm1 bd1 (.slice iA1 it1.n iC1) (.slice fA1 fe1.n fC1) (.slice kA1 ky1.n kC1)) (cmdT tg2 o2 u2 b2 ds2 (.slice sA2 s2.n sC2) md2 qt2 fl2 dt2 nm2 bd2 (.slice iA2 it2.n iC2) (.slice fA2 fe2.n fC2) (.slice kA2 ky2.n kC2)) 31
  have RS10 := Lib.hid (RS1.below hB0 fun _ _ h => h)
  have RS20 := Lib.hid (RS2.below hB0 fun _ _ h => h)
  have RI10 := Lib.hid (RI1.below hB0 fun _ _ h => h)
  have RI20 := Lib.hid (RI2.below hB0 fun _ _ h => h)
  have RF10 := Lib.hid (RF1.below hB0 fun _ _ h => h.below hB0)
  have RF20 := Lib.hid (RF2.below hB0 fun _ _ h => h.below hB0)
  have RK10 := Lib.hid (RK1.below hB0 fun _ _ h => h.below hB0)
  have RK20 := Lib.hid (RK2.below hB0 fun _ _ h => h.below hB0)
  have HB0 := Lib.hid hB0
  have HX0 := Lib.hid X0
  have HY0 := Lib.hid Y0
  clear hB0 X0 Y0 RS1 RS2 RI1 RI2 RF1 RF2 RK1 RK2
  go_enter Tryz.func19, Tryz.ntmps19
  by_cases e0 : tg1 = tg2
  rotate_left
  · have ne0 : (tg1.toList == tg2.toList) = false := by rw [Bool.eq_false_iff]; exact fun hh => e0 ((bytes_eq _ _).1 hh)
    have E0 := Lib.hid e0
    clear e0
    go_wp2_with fail
    go_ret
    exact EqP.no (fun h => E0.out h.1) HB0.out
  subst e0
  by_cases e1 : o1 = o2
  rotate_left
  · have ne1 : (o1 == o2) = false := by simpa using e1
    have E1 := Lib.hid e1
    clear e1
    go_wp2_with fail
    go_ret
    exact EqP.no (fun h => E1.out h.2.1) HB0.out
  subst e1
  by_cases e2 : u1 = u2
  rotate_left
  · have ne2 : (u1 == u2) = false := by simpa using e2
    have E2 := Lib.hid e2
    clear e2
    go_wp2_with fail
    go_ret
    exact EqP.no (fun h => E2.out h.2.2.1) HB0.out
  subst e2
  by_cases e3 : b1 = b2
  rotate_left
  · have ne3 : (b1.toList == b2.toList) = false := by rw [Bool.eq_false_iff]; exact fun hh => e3 ((bytes_eq _ _).1 hh)
    have E3 := Lib.hid e3
    clear e3
    go_wp2_with fail
    go_ret
    exact EqP.no (fun h => E3.out h.2.2.2.1) HB0.out
  subst e3
  by_cases e4 : ds1 = ds2
  rotate_left
  · have ne4 : (ds1.toList == ds2.toList) = false := by rw [Bool.eq_false_iff]; exact fun hh => e4 ((bytes_eq _ _).1 hh)
    have E4 := Lib.hid e4
    clear e4
    go_wp2_with fail
    go_ret
    exact EqP.no (fun h => E4.out h.2.2.2.2.1) HB0.out
  subst e4
  go_wp2_with fail
  refine (same_44 _ _ s1 s2 _ RS10.out RS20.out).mono ?_
  rintro e w1 ⟨r1, rfl, hr1, hb1⟩
  have HX1 := Lib.hid (blk hb1 HX0.out)
  have HY1 := Lib.hid (blk hb1 HY0.out)
  have HB1 := Lib.hid (HB0.out.trans (hb1.mono HB0.out.size))
  have HR1 := Lib.hid hr1
  have RI11 := Lib.hid (RI10.out.below hb1 fun _ _ h => h)
  have RI21 := Lib.hid (RI20.out.below hb1 fun _ _ h => h)
  have RF11 := Lib.hid (RF10.out.below hb1 fun _ _ h => h.below hb1)
  have RF21 := Lib.hid (RF20.out.below hb1 fun _ _ h => h.below hb1)
  have RK11 := Lib.hid (RK10.out.below hb1 fun _ _ h => h.below hb1)
  have RK21 := Lib.hid (RK20.out.below hb1 fun _ _ h => h.below hb1)
  clear hb1 hr1
  cases r1
  · go_wp2_with fail
    go_ret
    exact EqP.no (fun h => absurd (HR1.out.2 h.2.2.2.2.2.1) (by decide)) HB1.out
  by_cases e6 : md1 = md2
  rotate_left
  · have ne6 : (md1 == md2) = false := by simpa using e6
    have E6 := Lib.hid e6
    clear e6
    have p1x6 := cell_hp HX1.out (j := 6) (v := .int .i64 md1) rfl
    have q1x6 := cell_hp HY1.out (j := 6) (v := .int .i64 md2) rfl
    have p1x7 := cell_hp HX1.out (j := 7) (v := .bool qt1) rfl
    have q1x7 := cell_hp HY1.out (j := 7) (v := .bool qt2) rfl
    have p1x8 := cell_hp HX1.out (j := 8) (v := .int .i64 fl1) rfl
    have q1x8 := cell_hp HY1.out (j := 8) (v := .int .i64 fl2) rfl
    have p1x9 := cell_hp HX1.out (j := 9) (v := .int .i64 dt1) rfl
    have q1x9 := cell_hp HY1.out (j := 9) (v := .int .i64 dt2) rfl
    have p1x10 := cell_hp HX1.out (j := 10) (v := .int .i64 nm1) rfl
    have q1x10 := cell_hp HY1.out (j := 10) (v := .int .i64 nm2) rfl
    have p1x11 := cell_hp HX1.out (j := 11) (v := .string bd1) rfl
    have q1x11 := cell_hp HY1.out (j := 11) (v := .string bd2) rfl
    have p1x12 := cell_hp HX1.out (j := 12) (v := .slice iA1 it1.n iC1) rfl
    have q1x12 := cell_hp HY1.out (j := 12) (v := .slice iA2 it2.n iC2) rfl
    go_wp2_with fail
    go_ret
    exact EqP.no (fun h => E6.out h.2.2.2.2.2.2.1) HB1.out
  subst e6
  by_cases e7 : qt1 = qt2
  rotate_left
  · have ne7 : (qt1 == qt2) = false := by simpa using e7
    have E7 := Lib.hid e7
    clear e7
    have p1x6 := cell_hp HX1.out (j := 6) (v := .int .i64 md1) rfl
    have q1x6 := cell_hp HY1.out (j := 6) (v := .int .i64 md1) rfl
    have p1x7 := cell_hp HX1.out (j := 7) (v := .bool qt1) rfl
    have q1x7 := cell_hp HY1.out (j := 7) (v := .bool qt2) rfl
    have p1x8 := cell_hp HX1.out (j := 8) (v := .int .i64 fl1) rfl
    have q1x8 := cell_hp HY1.out (j := 8) (v := .int .i64 fl2) rfl
    have p1x9 := cell_hp HX1.out (j := 9) (v := .int .i64 dt1) rfl
    have q1x9 := cell_hp HY1.out (j := 9) (v := .int .i64 dt2) rfl
    have p1x10 := cell_hp HX1.out (j := 10) (v := .int .i64 nm1) rfl
    have q1x10 := cell_hp HY1.out (j := 10) (v := .int .i64 nm2) rfl
    have p1x11 := cell_hp HX1.out (j := 11) (v := .string bd1) rfl
    have q1x11 := cell_hp HY1.out (j := 11) (v := .string bd2) rfl
    have p1x12 := cell_hp HX1.out (j := 12) (v := .slice iA1 it1.n iC1) rfl
    have q1x12 := cell_hp HY1.out (j := 12) (v := .slice iA2 it2.n iC2) rfl
    go_wp2_with fail
    go_ret
    exact EqP.no (fun h => E7.out h.2.2.2.2.2.2.2.1) HB1.out
  subst e7
  by_cases e8 : fl1 = fl2
  rotate_left
  · have ne8 : (fl1 == fl2) = false := by simpa using e8
    have E8 := Lib.hid e8
    clear e8
    have p1x6 := cell_hp HX1.out (j := 6) (v := .int .i64 md1) rfl
    have q1x6 := cell_hp HY1.out (j := 6) (v := .int .i64 md1) rfl
    have p1x7 := cell_hp HX1.out (j := 7) (v := .bool qt1) rfl
    have q1x7 := cell_hp HY1.out (j := 7) (v := .bool qt1) rfl
    have p1x8 := cell_hp HX1.out (j := 8) (v := .int .i64 fl1) rfl
    have q1x8 := cell_hp HY1.out (j := 8) (v := .int .i64 fl2) rfl
    have p1x9 := cell_hp HX1.out (j := 9) (v := .int .i64 dt1) rfl
    have q1x9 := cell_hp HY1.out (j := 9) (v := .int .i64 dt2) rfl
    have p1x10 := cell_hp HX1.out (j := 10) (v := .int .i64 nm1) rfl
    have q1x10 := cell_hp HY1.out (j := 10) (v := .int .i64 nm2) rfl
    have p1x11 := cell_hp HX1.out (j := 11) (v := .string bd1) rfl
    have q1x11 := cell_hp HY1.out (j := 11) (v := .string bd2) rfl
    have p1x12 := cell_hp HX1.out (j := 12) (v := .slice iA1 it1.n iC1) rfl
    have q1x12 := cell_hp HY1.out (j := 12) (v := .slice iA2 it2.n iC2) rfl
    go_wp2_with fail
    go_ret
    exact EqP.no (fun h => E8.out h.2.2.2.2.2.2.2.2.1) HB1.out
  subst e8
  by_cases e9 : dt1 = dt2
  rotate_left
  · have ne9 : (dt1 == dt2) = false := by simpa using e9
    have E9 := Lib.hid e9
    clear e9
    have p1x6 := cell_hp HX1.out (j := 6) (v := .int .i64 md1) rfl
    have q1x6 := cell_hp HY1.out (j := 6) (v := .int .i64 md1) rfl
    have p1x7 := cell_hp HX1.out (j := 7) (v := .bool qt1) rfl
    have q1x7 := cell_hp HY1.out (j := 7) (v := .bool qt1) rfl
    have p1x8 := cell_hp HX1.out (j := 8) (v := .int .i64 fl1) rfl
    have q1x8 := cell_hp HY1.out (j := 8) (v := .int .i64 fl1) rfl
    have p1x9 := cell_hp HX1.out (j := 9) (v := .int .i64 dt1) rfl
    have q1x9 := cell_hp HY1.out (j := 9) (v := .int .i64 dt2) rfl
    have p1x10 := cell_hp HX1.out (j := 10) (v := .int .i64 nm1) rfl
    have q1x10 := cell_hp HY1.out (j := 10) (v := .int .i64 nm2) rfl
    have p1x11 := cell_hp HX1.out (j := 11) (v := .string bd1) rfl
    have q1x11 := cell_hp HY1.out (j := 11) (v := .string bd2) rfl
    have p1x12 := cell_hp HX1.out (j := 12) (v := .slice iA1 it1.n iC1) rfl
    have q1x12 := cell_hp HY1.out (j := 12) (v := .slice iA2 it2.n iC2) rfl
    go_wp2_with fail
    go_ret
    exact EqP.no (fun h => E9.out h.2.2.2.2.2.2.2.2.2.1) HB1.out
  subst e9
  by_cases e10 : nm1 = nm2
  rotate_left
  · have ne10 : (nm1 == nm2) = false := by simpa using e10
    have E10 := Lib.hid e10
    clear e10
    have p1x6 := cell_hp HX1.out (j := 6) (v := .int .i64 md1) rfl
    have q1x6 := cell_hp HY1.out (j := 6) (v := .int .i64 md1) rfl
    have p1x7 := cell_hp HX1.out (j := 7) (v := .bool qt1) rfl
    have q1x7 := cell_hp HY1.out (j := 7) (v := .bool qt1) rfl
    have p1x8 := cell_hp HX1.out (j := 8) (v := .int .i64 fl1) rfl
    have q1x8 := cell_hp HY1.out (j := 8) (v := .int .i64 fl1) rfl
    have p1x9 := cell_hp HX1.out (j := 9) (v := .int .i64 dt1) rfl
    have q1x9 := cell_hp HY1.out (j := 9) (v := .int .i64 dt1) rfl
    have p1x10 := cell_hp HX1.out (j := 10) (v := .int .i64 nm1) rfl
    have q1x10 := cell_hp HY1.out (j := 10) (v := .int .i64 nm2) rfl
    have p1x11 := cell_hp HX1.out (j := 11) (v := .string bd1) rfl
    have q1x11 := cell_hp HY1.out (j := 11) (v := .string bd2) rfl
    have p1x12 := cell_hp HX1.out (j := 12) (v := .slice iA1 it1.n iC1) rfl
    have q1x12 := cell_hp HY1.out (j := 12) (v := .slice iA2 it2.n iC2) rfl
    go_wp2_with fail
    go_ret
    exact EqP.no (fun h => E10.out h.2.2.2.2.2.2.2.2.2.2.1) HB1.out
  subst e10
  by_cases e11 : bd1 = bd2
  rotate_left
  · have ne11 : (bd1.toList == bd2.toList) = false := by rw [Bool.eq_false_iff]; exact fun hh => e11 ((bytes_eq _ _).1 hh)
    have E11 := Lib.hid e11
    clear e11
    have p1x6 := cell_hp HX1.out (j := 6) (v := .int .i64 md1) rfl
    have q1x6 := cell_hp HY1.out (j := 6) (v := .int .i64 md1) rfl
    have p1x7 := cell_hp HX1.out (j := 7) (v := .bool qt1) rfl
    have q1x7 := cell_hp HY1.out (j := 7) (v := .bool qt1) rfl
    have p1x8 := cell_hp HX1.out (j := 8) (v := .int .i64 fl1) rfl
    have q1x8 := cell_hp HY1.out (j := 8) (v := .int .i64 fl1) rfl
    have p1x9 := cell_hp HX1.out (j := 9) (v := .int .i64 dt1) rfl
    have q1x9 := cell_hp HY1.out (j := 9) (v := .int .i64 dt1) rfl
    have p1x10 := cell_hp HX1.out (j := 10) (v := .int .i64 nm1) rfl
    have q1x10 := cell_hp HY1.out (j := 10) (v := .int .i64 nm1) rfl
    have p1x11 := cell_hp HX1.out (j := 11) (v := .string bd1) rfl
    have q1x11 := cell_hp HY1.out (j := 11) (v := .string bd2) rfl
    have p1x12 := cell_hp HX1.out (j := 12) (v := .slice iA1 it1.n iC1) rfl
    have q1x12 := cell_hp HY1.out (j := 12) (v := .slice iA2 it2.n iC2) rfl
    go_wp2_with fail
    go_ret
    exact EqP.no (fun h => E11.out h.2.2.2.2.2.2.2.2.2.2.2.1) HB1.out
  subst e11
  have p1x6 := cell_hp HX1.out (j := 6) (v := .int .i64 md1) rfl
  have q1x6 := cell_hp HY1.out (j := 6) (v := .int .i64 md1) rfl
  have p1x7 := cell_hp HX1.out (j := 7) (v := .bool qt1) rfl
  have q1x7 := cell_hp HY1.out (j := 7) (v := .bool qt1) rfl
  have p1x8 := cell_hp HX1.out (j := 8) (v := .int .i64 fl1) rfl
  have q1x8 := cell_hp HY1.out (j := 8) (v := .int .i64 fl1) rfl
  have p1x9 := cell_hp HX1.out (j := 9) (v := .int .i64 dt1) rfl
  have q1x9 := cell_hp HY1.out (j := 9) (v := .int .i64 dt1) rfl
  have p1x10 := cell_hp HX1.out (j := 10) (v := .int .i64 nm1) rfl
  have q1x10 := cell_hp HY1.out (j := 10) (v := .int .i64 nm1) rfl
  have p1x11 := cell_hp HX1.out (j := 11) (v := .string bd1) rfl
  have q1x11 := cell_hp HY1.out (j := 11) (v := .string bd1) rfl
  have p1x12 := cell_hp HX1.out (j := 12) (v := .slice iA1 it1.n iC1) rfl
  have q1x12 := cell_hp HY1.out (j := 12) (v := .slice iA2 it2.n iC2) rfl
  go_wp2_with fail
  refine (same_45 _ _ it1 it2 _ RI11.out RI21.out).mono ?_
  rintro e w2 ⟨r2, rfl, hr2, hb2⟩
  clear p1x6 q1x6 p1x7 q1x7 p1x8 q1x8 p1x9 q1x9 p1x10 q1x10 p1x11 q1x11 p1x12 q1x12
  have HX2 := Lib.hid (blk hb2 HX1.out)
  have HY2 := Lib.hid (blk hb2 HY1.out)
  have HB2 := Lib.hid (HB1.out.trans (hb2.mono HB1.out.size))
  have HR2 := Lib.hid hr2
  have RF12 := Lib.hid (RF11.out.below hb2 fun _ _ h => h.below hb2)
  have RF22 := Lib.hid (RF21.out.below hb2 fun _ _ h => h.below hb2)
  have RK12 := Lib.hid (RK11.out.below hb2 fun _ _ h => h.below hb2)
  have RK22 := Lib.hid (RK21.out.below hb2 fun _ _ h => h.below hb2)
  clear hb2 hr2
  cases r2
  · go_wp2_with fail
    go_ret
    exact EqP.no (fun h => absurd (HR2.out.2 h.2.2.2.2.2.2.2.2.2.2.2.2.1) (by decide)) HB2.out
  have p2x13 := cell_hp HX2.out (j := 13) (v := .slice fA1 fe1.n fC1) rfl
  have q2x13 := cell_hp HY2.out (j := 13) (v := .slice fA2 fe2.n fC2) rfl
  go_wp2_with fail
  refine (eqf_46 _ _ fe1 fe2 _ RF12.out RF22.out).mono ?_
  rintro e w3 ⟨r3, rfl, hr3, hb3⟩
  clear p2x13 q2x13
  have HX3 := Lib.hid (blk hb3 HX2.out)
  have HY3 := Lib.hid (blk hb3 HY2.out)
  have HB3 := Lib.hid (HB2.out.trans (hb3.mono HB2.out.size))
  have HR3 := Lib.hid hr3
  have RK13 := Lib.hid (RK12.out.below hb3 fun _ _ h => h.below hb3)
  have RK23 := Lib.hid (RK22.out.below hb3 fun _ _ h => h.below hb3)
  clear hb3 hr3
  cases r3
  · go_wp2_with fail
    go_ret
    exact EqP.no (fun h => absurd (HR3.out.2 h.2.2.2.2.2.2.2.2.2.2.2.2.2.1) (by decide)) HB3.out
  have p3x14 := cell_hp HX3.out (j := 14) (v := .slice kA1 ky1.n kC1) rfl
  have q3x14 := cell_hp HY3.out (j := 14) (v := .slice kA2 ky2.n kC2) rfl
  go_wp2_with fail
  refine (eqf_47 _ _ ky1 ky2 _ RK13.out RK23.out).mono ?_
  rintro e w4 ⟨r4, rfl, hr4, hb4⟩
  clear p3x14 q3x14
  have HX4 := Lib.hid (blk hb4 HX3.out)
  have HY4 := Lib.hid (blk hb4 HY3.out)
  have HB4 := Lib.hid (HB3.out.trans (hb4.mono HB3.out.size))
  have HR4 := Lib.hid hr4
  clear hb4 hr4
  cases r4
  · go_wp2_with fail
    go_ret
    exact EqP.no (fun h => absurd (HR4.out.2 h.2.2.2.2.2.2.2.2.2.2.2.2.2.2) (by decide)) HB4.out
  go_wp2_with fail
  go_ret
  exact EqP.yes ⟨rfl, rfl, rfl, rfl, rfl, HR1.out.1 (by simp), rfl, rfl, rfl, rfl, rfl, rfl, HR2.out.1 (by simp), HR3.out.1 (by simp), HR4.out.1 (by simp)⟩ HB4.out

end Go.Proofs.YtjamgkcmpcnfpaaGreatDoor

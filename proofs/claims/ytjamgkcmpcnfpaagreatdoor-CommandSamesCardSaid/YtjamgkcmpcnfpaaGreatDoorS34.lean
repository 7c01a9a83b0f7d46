/-
  The law's walk: whether two commands are the same is the document's.
-/
import Derived.Test.YtjamgkcmpcnfpaaGreatDoorS29
import Derived.Test.YtjamgkcmpcnfpaaGreatDoorS30
import Derived.Test.YtjamgkcmpcnfpaaGreatDoorS33
set_option linter.unusedVariables false
set_option linter.unusedSimpArgs false

namespace Go.Proofs.YtjamgkcmpcnfpaaGreatDoor
open Go.RowKit

/-- True is returned; what was there stands. -/
def Said (w : World) (e : Ending) (w' : World) : Prop := e = .returned (.bool true) ∧ Below w.heap.size w w'

/-- What a look at two commands leaves, of the variables that hold them. -/
def Looked (V : World) (x y : Nat) (C1 C2 : Array Value) (W : World) : Prop :=
  Below V.heap.size V W ∧ W.heap[x]? = some (.cells C1 31 (0, 0)) ∧ W.heap[y]? = some (.cells C2 31 (0, 0))

theorem Looked.below {V W : World} {x y : Nat} {C1 C2 : Array Value} (h : Looked V x y C1 C2 W) : Below V.heap.size V W := h.1

theorem looked_19 (V W : World) (x y : Nat) (C1 C2 E1 E2 : Array Value) (d1 d2 : CmdD) (p : Bool) (h1 : IsCmd V E1 d1) (h2 : IsCmd V E2 d2) (hp : p = true ↔ CmdD.Eqv d1 d2) (hL : Looked V x y C1 C2 W) :
    Calls Tryz.prog 19 #[.agg E1, .agg E2] W fun e w' => e = .returned (.bool p) ∧ Looked V x y C1 C2 w' :=
  (same_19 E1 E2 d1 d2 W (h1.below hL.1) (h2.below hL.1)).mono fun e w' ⟨r, he, hr, hb⟩ => by
    obtain rfl : r = p := Bool.eq_iff_iff.2 (hr.trans hp.symm)
    exact ⟨he, hL.1.trans (hb.mono hL.1.size), blk hb hL.2.1, blk hb hL.2.2⟩

theorem looked_11 (V W : World) (x y : Nat) (C1 C2 E1 E2 : Array Value) (d1 d2 : CmdD) (p : Bool) (h1 : IsCmd V E1 d1) (h2 : IsCmd V E2 d2) (hp : p = true ↔ CmdD.Eqv d1 d2) (hL : Looked V x y C1 C2 W) :
    Calls Tryz.prog 11 #[.agg E1, .agg E2] W fun e w' => e = .returned (.bool p) ∧ Looked V x y C1 C2 w' :=
  (same_11 E1 E2 d1 d2 W (h1.below hL.1) (h2.below hL.1)).mono fun e w' ⟨r, he, hr, hb⟩ => by
    obtain rfl : r = p := Bool.eq_iff_iff.2 (hr.trans hp.symm)
    exact ⟨he, hL.1.trans (hb.mono hL.1.size), blk hb hL.2.1, blk hb hL.2.2⟩

set_option maxHeartbeats 32000000 in
set_option maxRecDepth 100000 in
theorem sames_walk (va vb : Value) (w : World) (hE : Env w.heap.size w) (ha : PartsV w va) (hb : PartsV w vb) : Calls Tryz.prog 7 #[va, vb] w (Said w) := by
  have HE := Lib.hid hE
  have HPA := Lib.hid ha
  have HPB := Lib.hid hb
  clear hE ha hb
  go_enter Tryz.func7, Tryz.ntmps7
  go_wp2_with fail
  refine (alive_yes w.heap.size w HE.out).mono ?_
  rintro e w1 ⟨rfl, hB1⟩
  have HB1 := Lib.hid hB1
  clear hB1
  go_wp2_with fail
  refine (great_any w1 va (HPA.out.below HB1.out)).mono ?_
  rintro e w2 ⟨r, rfl, rfl⟩
  cases r
  rotate_left
  · go_wp2_with fail
    go_ret
    exact ⟨rfl, HB1.out⟩
  go_wp2_with fail
  refine (great_any w1 vb (HPB.out.below HB1.out)).mono ?_
  rintro e w2 ⟨r, rfl, rfl⟩
  cases r
  rotate_left
  · go_wp2_with fail
    go_ret
    exact ⟨rfl, HB1.out⟩
  go_wp2_with fail
  refine (parse_any w1 va (HPA.out.below HB1.out)).mono ?_
  rintro e w3 ⟨cs1, er1, rfl, h151, hC1, hB3⟩
  have HB3 := Lib.hid (HB1.out.trans (hB3.mono HB1.out.size))
  have HO1 := Lib.hid hC1.one
  have H151 := Lib.hid h151
  obtain ⟨d1, hI1⟩ := hC1.is
  have HI1 := Lib.hid hI1
  clear hC1 hI1 hB3 h151
  go_wp2_with (refine store_fresh (w := w3) 31 zeroCmd cs1 _ _ rfl rfl rfl rfl (cmd_size H151.out) (by rw [H151.out]; rfl) HO1.out ?_; intro V1 hb1 hx1 hs1; have HV1 := Lib.hid hb1; have HX1 := Lib.hid hx1; have Hs1 := Lib.hid hs1; clear hb1 hx1 hs1)
  have HBV1 := Lib.hid (HB3.out.trans (HV1.out.mono HB3.out.size))
  refine (parse_any V1 vb (HPB.out.below HBV1.out)).mono ?_
  rintro e w4 ⟨cs2, er2, rfl, h152, hC2, hB4⟩
  have HB4 := Lib.hid (HBV1.out.trans (hB4.mono HBV1.out.size))
  have HX4 := Lib.hid (blk hB4 HX1.out)
  have HI4 := Lib.hid ((HI1.out.below HV1.out).below hB4)
  have HO2 := Lib.hid hC2.one
  have H152 := Lib.hid h152
  obtain ⟨d2, hI2⟩ := hC2.is
  have HI2 := Lib.hid hI2
  have Hlt := Lib.hid (Nat.lt_of_lt_of_le (show w3.heap.size < V1.heap.size by rw [Hs1.out]; omega) hB4.size)
  clear hC2 hI2 hB4 h152
  obtain ⟨x, hx⟩ : ∃ x, x = w3.heap.size := ⟨_, rfl⟩
  go_wp2_with (refine store_fresh (w := w4) 31 zeroCmd cs2 _ _ rfl rfl rfl rfl (cmd_size H152.out) (by rw [H152.out]; rfl) HO2.out ?_; intro V2 hb2 hx2 hs2; have HV2 := Lib.hid hb2; have HY := Lib.hid hx2; have Hs2 := Lib.hid hs2; clear hb2 hx2 hs2)
  have HBV2 := Lib.hid (HB4.out.trans (HV2.out.mono HB4.out.size))
  have HX := Lib.hid (blk HV2.out HX4.out)
  have HJ1 := Lib.hid (HI4.out.below HV2.out)
  have HJ2 := Lib.hid (HI2.out.below HV2.out)
  clear HX4 HI4 HI2 HI1 HX1
  subst hx
  obtain ⟨sv1, iv1, fv1, kv1, rfl, RS1, RI1, RF1, RK1⟩ := id HJ1.out
  obtain ⟨sv2, iv2, fv2, kv2, rfl, RS2, RI2, RF2, RK2⟩ := id HJ2.out
  obtain ⟨sA1, sC1, rfl⟩ := RS1.form
  obtain ⟨iA1, iC1, rfl⟩ := RI1.form
  obtain ⟨fA1, fC1, rfl⟩ := RF1.form
  obtain ⟨kA1, kC1, rfl⟩ := RK1.form
  obtain ⟨sA2, sC2, rfl⟩ := RS2.form
  obtain ⟨iA2, iC2, rfl⟩ := RI2.form
  obtain ⟨fA2, fC2, rfl⟩ := RF2.form
  obtain ⟨kA2, kC2, rfl⟩ := RK2.form
  clear RS1 RI1 RF1 RK1 RS2 RI2 RF2 RK2
  have hlt := Hlt.out
  generalize w3.heap.size = x at *
  generalize w4.heap.size = y at *
  obtain ⟨p, hp⟩ : ∃ p : Bool, p = true ↔ CmdD.Eqv d1 d2 := by
    by_cases h : CmdD.Eqv d1 d2
    · exact ⟨true, ⟨fun _ => h, fun _ => rfl⟩⟩
    · exact ⟨false, ⟨(fun h' => by cases h'), fun h' => absurd h' h⟩⟩
  have H19 := Lib.hid (fun W => looked_19 V2 W x y (cmdT d1.tag d1.op d1.uid d1.box d1.dest (.slice sA1 d1.set.n sC1) d1.mode d1.quiet d1.flags d1.date d1.num d1.body (.slice iA1 d1.items.n iC1) (.slice fA1 d1.fetch.n fC1) (.slice kA1 d1.keys.n kC1)) (cmdT d2.tag d2.op d2.uid d2.box d2.dest (.slice sA2 d2.set.n sC2) d2.mode d2.quiet d2.flags d2.date d2.num d2.body (.slice iA2 d2.items.n iC2) (.slice fA2 d2.fetch.n fC2) (.slice kA2 d2.keys.n kC2)) _ _ d1 d2 p HJ1.out HJ2.out hp)
  have H11 := Lib.hid (fun W => looked_11 V2 W x y (cmdT d1.tag d1.op d1.uid d1.box d1.dest (.slice sA1 d1.set.n sC1) d1.mode d1.quiet d1.flags d1.date d1.num d1.body (.slice iA1 d1.items.n iC1) (.slice fA1 d1.fetch.n fC1) (.slice kA1 d1.keys.n kC1)) (cmdT d2.tag d2.op d2.uid d2.box d2.dest (.slice sA2 d2.set.n sC2) d2.mode d2.quiet d2.flags d2.date d2.num d2.body (.slice iA2 d2.items.n iC2) (.slice fA2 d2.fetch.n fC2) (.slice kA2 d2.keys.n kC2)) _ _ d1 d2 p HJ1.out HJ2.out hp)
  have H19x := Lib.hid (fun W => looked_19 V2 W x y (cmdT d1.tag d1.op d1.uid d1.box d1.dest (.slice sA1 d1.set.n sC1) d1.mode d1.quiet d1.flags d1.date d1.num d1.body (.slice iA1 d1.items.n iC1) (.slice fA1 d1.fetch.n fC1) (.slice kA1 d1.keys.n kC1)) (cmdT d2.tag d2.op d2.uid d2.box d2.dest (.slice sA2 d2.set.n sC2) d2.mode d2.quiet d2.flags d2.date d2.num d2.body (.slice iA2 d2.items.n iC2) (.slice fA2 d2.fetch.n fC2) (.slice kA2 d2.keys.n kC2)) _ _ d1 d1 true HJ1.out HJ1.out ⟨fun _ => CmdD.Eqv.refl d1, fun _ => rfl⟩)
  have KEEP : ∀ W : World, Looked V2 x y (cmdT d1.tag d1.op d1.uid d1.box d1.dest (.slice sA1 d1.set.n sC1) d1.mode d1.quiet d1.flags d1.date d1.num d1.body (.slice iA1 d1.items.n iC1) (.slice fA1 d1.fetch.n fC1) (.slice kA1 d1.keys.n kC1)) (cmdT d2.tag d2.op d2.uid d2.box d2.dest (.slice sA2 d2.set.n sC2) d2.mode d2.quiet d2.flags d2.date d2.num d2.body (.slice iA2 d2.items.n iC2) (.slice fA2 d2.fetch.n fC2) (.slice kA2 d2.keys.n kC2)) W → W.cell? ⟨x, 0, none⟩ = some (.string d1.tag) ∧ W.cell? ⟨x, 1, none⟩ = some (.int .i64 d1.op) ∧ W.cell? ⟨x, 2, none⟩ = some (.bool d1.uid) ∧ W.cell? ⟨x, 3, none⟩ = some (.string d1.box) ∧ W.cell? ⟨x, 4, none⟩ = some (.string d1.dest) ∧ W.cell? ⟨x, 5, none⟩ = some (.slice sA1 d1.set.n sC1) ∧ W.cell? ⟨x, 6, none⟩ = some (.int .i64 d1.mode) ∧ W.cell? ⟨x, 7, none⟩ = some (.bool d1.quiet) ∧ W.cell? ⟨x, 8, none⟩ = some (.int .i64 d1.flags) ∧ W.cell? ⟨x, 9, none⟩ = some (.int .i64 d1.date) ∧ W.cell? ⟨x, 10, none⟩ = some (.int .i64 d1.num) ∧ W.cell? ⟨x, 11, none⟩ = some (.string d1.body) ∧ W.cell? ⟨x, 12, none⟩ = some (.slice iA1 d1.items.n iC1) ∧ W.cell? ⟨x, 13, none⟩ = some (.slice fA1 d1.fetch.n fC1) ∧ W.cell? ⟨x, 14, none⟩ = some (.slice kA1 d1.keys.n kC1) ∧ W.cell? ⟨y, 0, none⟩ = some (.string d2.tag) ∧ W.cell? ⟨y, 1, none⟩ = some (.int .i64 d2.op) ∧ W.cell? ⟨y, 2, none⟩ = some (.bool d2.uid) ∧ W.cell? ⟨y, 3, none⟩ = some (.string d2.box) ∧ W.cell? ⟨y, 4, none⟩ = some (.string d2.dest) ∧ W.cell? ⟨y, 5, none⟩ = some (.slice sA2 d2.set.n sC2) ∧ W.cell? ⟨y, 6, none⟩ = some (.int .i64 d2.mode) ∧ W.cell? ⟨y, 7, none⟩ = some (.bool d2.quiet) ∧ W.cell? ⟨y, 8, none⟩ = some (.int .i64 d2.flags) ∧ W.cell? ⟨y, 9, none⟩ = some (.int .i64 d2.date) ∧ W.cell? ⟨y, 10, none⟩ = some (.int .i64 d2.num) ∧ W.cell? ⟨y, 11, none⟩ = some (.string d2.body) ∧ W.cell? ⟨y, 12, none⟩ = some (.slice iA2 d2.items.n iC2) ∧ W.cell? ⟨y, 13, none⟩ = some (.slice fA2 d2.fetch.n fC2) ∧ W.cell? ⟨y, 14, none⟩ = some (.slice kA2 d2.keys.n kC2) := fun W ⟨_, hx, hy⟩ =>
    ⟨cell_hp hx rfl, cell_hp hx rfl, cell_hp hx rfl, cell_hp hx rfl, cell_hp hx rfl, cell_hp hx rfl, cell_hp hx rfl, cell_hp hx rfl, cell_hp hx rfl, cell_hp hx rfl, cell_hp hx rfl, cell_hp hx rfl, cell_hp hx rfl, cell_hp hx rfl, cell_hp hx rfl, cell_hp hy rfl, cell_hp hy rfl, cell_hp hy rfl, cell_hp hy rfl, cell_hp hy rfl, cell_hp hy rfl, cell_hp hy rfl, cell_hp hy rfl, cell_hp hy rfl, cell_hp hy rfl, cell_hp hy rfl, cell_hp hy rfl, cell_hp hy rfl, cell_hp hy rfl, cell_hp hy rfl⟩
  have HKEEP := Lib.hid KEEP
  have HL0 : Hid (Looked V2 x y (cmdT d1.tag d1.op d1.uid d1.box d1.dest (.slice sA1 d1.set.n sC1) d1.mode d1.quiet d1.flags d1.date d1.num d1.body (.slice iA1 d1.items.n iC1) (.slice fA1 d1.fetch.n fC1) (.slice kA1 d1.keys.n kC1)) (cmdT d2.tag d2.op d2.uid d2.box d2.dest (.slice sA2 d2.set.n sC2) d2.mode d2.quiet d2.flags d2.date d2.num d2.body (.slice iA2 d2.items.n iC2) (.slice fA2 d2.fetch.n fC2) (.slice kA2 d2.keys.n kC2)) V2) := Lib.hid ⟨Below.refl _ V2, HX.out, HY.out⟩
  have hL1 : Looked V2 x y (cmdT d1.tag d1.op d1.uid d1.box d1.dest (.slice sA1 d1.set.n sC1) d1.mode d1.quiet d1.flags d1.date d1.num d1.body (.slice iA1 d1.items.n iC1) (.slice fA1 d1.fetch.n fC1) (.slice kA1 d1.keys.n kC1)) (cmdT d2.tag d2.op d2.uid d2.box d2.dest (.slice sA2 d2.set.n sC2) d2.mode d2.quiet d2.flags d2.date d2.num d2.body (.slice iA2 d2.items.n iC2) (.slice fA2 d2.fetch.n fC2) (.slice kA2 d2.keys.n kC2)) V2.drew := ⟨(Below.refl _ V2).drew, HX.out, HY.out⟩
  have hL0 := HL0.out
  clear KEEP hp HJ1 HJ2
  cases p
  all_goals
    go_region_held3 (fun w' => w'.cell? ⟨x, 0, none⟩ = some (.string d1.tag) ∧ w'.cell? ⟨x, 1, none⟩ = some (.int .i64 d1.op) ∧ w'.cell? ⟨x, 2, none⟩ = some (.bool d1.uid) ∧ w'.cell? ⟨x, 3, none⟩ = some (.string d1.box) ∧ w'.cell? ⟨x, 4, none⟩ = some (.string d1.dest) ∧ w'.cell? ⟨x, 5, none⟩ = some (.slice sA1 d1.set.n sC1) ∧ w'.cell? ⟨x, 6, none⟩ = some (.int .i64 d1.mode) ∧ w'.cell? ⟨x, 7, none⟩ = some (.bool d1.quiet) ∧ w'.cell? ⟨x, 8, none⟩ = some (.int .i64 d1.flags) ∧ w'.cell? ⟨x, 9, none⟩ = some (.int .i64 d1.date) ∧ w'.cell? ⟨x, 10, none⟩ = some (.int .i64 d1.num) ∧ w'.cell? ⟨x, 11, none⟩ = some (.string d1.body) ∧ w'.cell? ⟨x, 12, none⟩ = some (.slice iA1 d1.items.n iC1) ∧ w'.cell? ⟨x, 13, none⟩ = some (.slice fA1 d1.fetch.n fC1) ∧ w'.cell? ⟨x, 14, none⟩ = some (.slice kA1 d1.keys.n kC1) ∧ w'.cell? ⟨y, 0, none⟩ = some (.string d2.tag) ∧ w'.cell? ⟨y, 1, none⟩ = some (.int .i64 d2.op) ∧ w'.cell? ⟨y, 2, none⟩ = some (.bool d2.uid) ∧ w'.cell? ⟨y, 3, none⟩ = some (.string d2.box) ∧ w'.cell? ⟨y, 4, none⟩ = some (.string d2.dest) ∧ w'.cell? ⟨y, 5, none⟩ = some (.slice sA2 d2.set.n sC2) ∧ w'.cell? ⟨y, 6, none⟩ = some (.int .i64 d2.mode) ∧ w'.cell? ⟨y, 7, none⟩ = some (.bool d2.quiet) ∧ w'.cell? ⟨y, 8, none⟩ = some (.int .i64 d2.flags) ∧ w'.cell? ⟨y, 9, none⟩ = some (.int .i64 d2.date) ∧ w'.cell? ⟨y, 10, none⟩ = some (.int .i64 d2.num) ∧ w'.cell? ⟨y, 11, none⟩ = some (.string d2.body) ∧ w'.cell? ⟨y, 12, none⟩ = some (.slice iA2 d2.items.n iC2) ∧ w'.cell? ⟨y, 13, none⟩ = some (.slice fA2 d2.fetch.n fC2) ∧ w'.cell? ⟨y, 14, none⟩ = some (.slice kA2 d2.keys.n kC2)) (first | exact HKEEP.out _ (by assumption) | go_keep)
      (first
        | (go_at_call 11; (with_reducible refine (H11.out _ ?_).mono ?_); assumption; rintro e w' ⟨rfl, hL⟩)
        | (go_at_call 19; (with_reducible refine (H19x.out _ ?_).mono ?_); assumption; rintro e w' ⟨rfl, hL⟩)
        | (go_at_call 19; (with_reducible refine (H19.out _ ?_).mono ?_); assumption; rintro e w' ⟨rfl, hL⟩))
  all_goals
    go_wp2_with fail
    go_ret
    exact ⟨rfl, HBV2.out.trans ((Looked.below (by assumption)).mono HBV2.out.size)⟩

end Go.Proofs.YtjamgkcmpcnfpaaGreatDoor

/-
  The parser's 'store' at the line that the law's fixed fact has.
-/
import Derived.Test.YtjamgkcmpcnfpaaGreatDoorFlags
import Derived.Test.YtjamgkcmpcnfpaaGreatDoorAppend
namespace Go.Proofs.YtjamgkcmpcnfpaaGreatDoor
open Go.RowKit

/-- FLAGS.SILENT -/
def silentL : List UInt8 := [70, 76, 65, 71, 83, 46, 83, 73, 76, 69, 78, 84]
/-- What follows the set in the fixed line. -/
def tailL : List UInt8 := 32 :: 43 :: (silentL ++ 32 :: 40 :: (seenL ++ [41]))

set_option maxHeartbeats 4000000 in
set_option maxRecDepth 100000 in
theorem store_seen (g xb : Nat) (cs : Array Value) (s5 : Value) (b7 : Bool) (i6 i8 : Int) (rv kv : Value) (ty : TypeId) (fr : Nat × Nat) (w : World) (hgx : xb ≠ g) (hglt : g < w.heap.size) (hg9 : 9 < g) (hx9 : 9 < xb)
    (h9 : w.heap[9]? = some (.cells namedC ty fr)) (hX : w.heap[xb]? = some (.cells cs 31 (0, 0))) (h5 : cs[5]? = some s5) (h6 : cs[6]? = some (.int .i64 i6)) (h7 : cs[7]? = some (.bool b7)) (h8 : cs[8]? = some (.int .i64 i8))
    (hSet : Calls Tryz.prog 79 #[PP g] w fun e w' => ∃ A c, e = .returned (.slice A 1 c) ∧ At g w' ⟨tailL.toArray⟩ rv kv ∧ Kept g w w') :
    Calls Tryz.prog 88 #[PP g, .pointer (some ⟨xb, 0, none⟩)] w fun e w' => e = .returned (.tuple #[]) ∧ ∃ A c,
      w'.heap[xb]? = some (.cells ((((cs.setIfInBounds 5 (.slice A 1 c)).setIfInBounds 6 (.int .i64 1)).setIfInBounds 7 (.bool true)).setIfInBounds 8 (.int .i64 1)) 31 (0, 0)) ∧ At g w' ⟨#[]⟩ rv kv ∧ Kept2 g xb w w' := by
  have hlt := (Array.getElem?_eq_some_iff.1 hX).1
  have HS := Lib.hid hSet; clear hSet
  have HX := Lib.hid hX; clear hX
  have H5 := Lib.hid h5; clear h5
  have H6 := Lib.hid h6; clear h6
  have H7 := Lib.hid h7; clear h7
  have H8 := Lib.hid h8; clear h8
  have H9 := Lib.hid h9; clear h9
  have h9lt := (Array.getElem?_eq_some_iff.1 H9.out).1
  go_enter Tryz.func88, Tryz.ntmps88
  go_wp2_with fail
  refine HS.out.mono ?_
  rintro e w1 ⟨A, c, rfl, hA1, hK1⟩
  have X1 := Lib.hid ((hK1.block xb hlt hgx).trans HX.out)
  have c1 := cells_at X1.out H5.out
  have f1 := Lib.frozen_of_heap X1.out 5
  have X2 := Lib.hid (heap_setCell_same w1 xb 5 cs 31 (.slice A 1 c) X1.out)
  have hA2 := hA1.other (p := ⟨xb, 5, none⟩) hgx (.slice A 1 c)
  have hK2 := (hK1.two xb).setx 5 (.slice A 1 c)
  go_wp2_with fail
  clear c1 f1
  generalize (w1.setCell ⟨xb, 5, none⟩ (.slice A 1 c)) = W2 at *
  refine (eat_has g _ ⟨#[32]⟩ (43 :: (silentL ++ 32 :: 40 :: (seenL ++ [41]))) rv kv _ hA2 rfl).mono ?_
  rintro e w3 ⟨rfl, hA3, hK3⟩
  go_wp2_with fail
  refine (may_has g _ ⟨#[43]⟩ (silentL ++ 32 :: 40 :: (seenL ++ [41])) rv kv _ hA3 rfl).mono ?_
  rintro e w4 ⟨rfl, hA4, hK4⟩
  have hK04 := hK2.trans ((hK3.trans hK4).two xb)
  have X4 := Lib.hid (((hK3.trans hK4).block xb (hK2.lt hlt) hgx).trans X2.out)
  have c4 := cells_at (j := 6) X4.out (by rw [Array.getElem?_setIfInBounds]; simp; exact H6.out)
  have f4 := Lib.frozen_of_heap X4.out 6
  have X5 := Lib.hid (heap_setCell_same w4 xb 6 _ 31 (.int .i64 1) X4.out)
  have hA5 := hA4.other (p := ⟨xb, 6, none⟩) hgx (.int .i64 1)
  have hK5 := hK04.setx 6 (.int .i64 1)
  go_wp2_with fail
  clear c4 f4
  generalize (w4.setCell ⟨xb, 6, none⟩ (.int .i64 1)) = W5 at *
  refine (name_any g _ silentL (32 :: 40 :: (seenL ++ [41])) rv kv _ hA5 rfl (by decide) (by decide) (by decide) (by decide)).mono ?_
  rintro e w6 ⟨rfl, hA6, hK6⟩
  have hsm : smallL silentL = [102, 108, 97, 103, 115, 46, 115, 105, 108, 101, 110, 116] := by decide
  rw [hsm]
  have hK06 := hK5.trans (hK6.two xb)
  have X6 := Lib.hid ((hK6.block xb (hK5.lt hlt) hgx).trans X5.out)
  have c6 := cells_at (j := 7) X6.out (by rw [Array.getElem?_setIfInBounds, Array.getElem?_setIfInBounds]; simp; exact H7.out)
  have f6 := Lib.frozen_of_heap X6.out 7
  have X7 := Lib.hid (heap_setCell_same w6 xb 7 _ 31 (.bool true) X6.out)
  have hA7 := hA6.other (p := ⟨xb, 7, none⟩) hgx (.bool true)
  have hK7 := hK06.setx 7 (.bool true)
  go_wp2_with fail
  refine (must_yes _).mono ?_
  rintro e w7' ⟨rfl, rfl⟩
  clear c6 f6
  generalize (w6.setCell ⟨xb, 7, none⟩ (.bool true)) = W7 at *
  go_wp2_with fail
  refine (eat_has g _ ⟨#[32]⟩ (40 :: (seenL ++ [41])) rv kv _ hA7 rfl).mono ?_
  rintro e w8 ⟨rfl, hA8, hK8⟩
  go_wp2_with fail
  refine (may_has g _ ⟨#[40]⟩ (seenL ++ [41]) rv kv _ hA8 rfl).mono ?_
  rintro e w9 ⟨rfl, hA9, hK9⟩
  have hK09 := hK7.trans ((hK8.trans hK9).two xb)
  go_wp2_with fail
  refine (flags_seen g _ [] rv kv ty fr _ hA9 rfl (by decide) ((hK09.block 9 h9lt (by omega) (by omega)).trans H9.out) hg9).mono ?_
  rintro e w10 ⟨rfl, hA10, hK10⟩
  have X10 := Lib.hid ((((hK8.trans hK9).trans hK10).block xb (hK7.lt hlt) hgx).trans X7.out)
  have c10 := cells_at (j := 8) X10.out (by rw [Array.getElem?_setIfInBounds, Array.getElem?_setIfInBounds, Array.getElem?_setIfInBounds]; simp; exact H8.out)
  have f10 := Lib.frozen_of_heap X10.out 8
  go_wp2_with fail
  have fin := heap_setCell_same w10 xb 8 _ 31 (.int .i64 1) X10.out
  have hfin : (∃ A c, (w10.setCell ⟨xb, 8, none⟩ (.int .i64 1)).heap[xb]? = some (.cells ((((cs.setIfInBounds 5 (.slice A 1 c)).setIfInBounds 6 (.int .i64 1)).setIfInBounds 7 (.bool true)).setIfInBounds 8 (.int .i64 1)) 31 (0, 0)) ∧ At g (w10.setCell ⟨xb, 8, none⟩ (.int .i64 1)) ⟨#[]⟩ rv kv ∧ Kept2 g xb w (w10.setCell ⟨xb, 8, none⟩ (.int .i64 1))) :=
    ⟨A, c, fin, hA10.other (p := ⟨xb, 8, none⟩) hgx _, (hK09.trans (hK10.two xb)).setx 8 _⟩
  first
  | (go_end0; exact ⟨rfl, hfin⟩)
  | (refine bodyPost_ret (results_none rfl _ _ _) rfl ?_; exact ⟨rfl, hfin⟩)
  | exact ⟨rfl, _, results_none rfl _ _ _, rfl, hfin⟩

end Go.Proofs.YtjamgkcmpcnfpaaGreatDoor

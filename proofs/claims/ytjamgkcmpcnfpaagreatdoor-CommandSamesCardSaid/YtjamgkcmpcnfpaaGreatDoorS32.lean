/-
  The parser's 'command' at a name behind UID.
  Commands that are refused: something behind them.
  Tag, at a line that begins with a tag and a blank.
  Parse at the lines of the law's fixed fact.
-/
import Derived.Test.YtjamgkcmpcnfpaaGreatDoorS31
import Derived.Deep.RegionWith
import Derived.Test.YtjamgkcmpcnfpaaGreatDoorS13
import Derived.RegionTactic
import Derived.ChangeAlike
set_option linter.unusedVariables false
set_option linter.unusedSimpArgs false

namespace Go.Proofs.YtjamgkcmpcnfpaaGreatDoor
open Go.RowKit

/-- UID -/
def uidL : List UInt8 := [85, 73, 68]

def uidC (tag : List UInt8) (op : Int) : Array Value :=
  ((zeroCmd.setIfInBounds 0 (.string ⟨tag.toArray⟩)).setIfInBounds 1 (.int .i64 0) |>.setIfInBounds 1 (.int .i64 op)).setIfInBounds 2 (.bool true)

set_option maxHeartbeats 4000000 in
set_option maxRecDepth 100000 in
theorem command_uid (g bm : Nat) (t : ByteArray) (tag nm r : List UInt8) (op : Int) (rv kv : Value) (w : World) (hA : At g w t rv kv) (ht : t.data.toList = tag ++ 32 :: (uidL ++ 32 :: (nm ++ r))) (hs : t.size ≤ 9223372036854775807) (hT : TagOk tag)
    (hnm : nm ≠ []) (hna : allB nameB nm = true) (hnb : stopB nameB r = true) (hop : (smallL nm, op) ∈ opsT) (h18 : 18 ≤ op) (h22 : op ≤ 22)
    (hLook : ∀ W, Kept2 g w.heap.size w W → Look bm W)
    (C : Array Value → Prop) (hC : ∀ cs, C cs → cs.size = 15 ∧ cs.all (·.oneCell') = true) (R : Array Value → World → Prop)
    (hTakes : ∀ w1, At g w1 ⟨r.toArray⟩ rv kv → w1.heap[w.heap.size]? = some (.cells (uidC tag op) 31 (0, 0)) → Kept2 g w.heap.size w w1 →
      Calls Tryz.prog 52 #[PP g, .pointer (some ⟨w.heap.size, 0, none⟩)] w1 fun e w' => ∃ cs, e = .returned (.tuple #[]) ∧ C cs ∧ w'.heap[w.heap.size]? = some (.cells cs 31 (0, 0)) ∧ Done g kv w' ∧ Kept2 g w.heap.size w1 w' ∧ R cs w') :
    Calls Tryz.prog 24 #[PP g] w fun e w' => ∃ cs, e = .returned (.agg cs) ∧ C cs ∧ Done g kv w' ∧ Kept2 g w.heap.size w w' ∧ R cs w' := by
  have hTg := tag_any g t tag (32 :: (uidL ++ 32 :: (nm ++ r))) rv kv (w.alloc (.cells zeroCmd 31)) (hA.alloc _) ht hs hT.ne hT.all (show (!(atomOr [93] ((32 : UInt8).toNat : Int))) = true from by decide) hT.len hT.plus
  have hsz1 : (⟨(uidL ++ 32 :: (nm ++ r)).toArray⟩ : ByteArray).size ≤ 9223372036854775807 := by rw [size_bytes, ht] at hs; rw [size_bytes]; simp at hs ⊢; omega
  have hsz2 : (⟨(nm ++ r).toArray⟩ : ByteArray).size ≤ 9223372036854775807 := by rw [size_bytes, ht] at hs; rw [size_bytes]; simp at hs ⊢; omega
  have Hsz1 := Lib.hid hsz1; clear hsz1
  have Hsz2 := Lib.hid hsz2; clear hsz2
  have hX0 : (w.alloc (.cells zeroCmd 31)).heap[w.heap.size]? = some (.cells zeroCmd 31 (0, 0)) := heap_alloc_at _ _ _ rfl
  have hK0 : Kept g w (w.alloc (.cells zeroCmd 31)) := (Kept.refl _ _).alloc _
  have hlt0 : w.heap.size < (w.alloc (.cells zeroCmd 31)).heap.size := by simp
  have hgx : w.heap.size ≠ g := by have := hA.lt; omega
  have HT := Lib.hid hTg; clear hTg
  have HX0 := Lib.hid hX0; clear hX0
  have HK0 := Lib.hid hK0; clear hK0
  have HL := Lib.hid hLook; clear hLook
  have HTk := Lib.hid hTakes; clear hTakes
  have HC := Lib.hid hC; clear hC
  have hop18 : decide (18 ≤ op) = true := by simpa using h18
  have hop22 : decide (op ≤ 22) = true := by simpa using h22
  have hop0 : (op != 0) = true := by rw [bne_iff_ne]; omega
  have Hop := Lib.hid hop; clear hop
  have Hn1 : Hid (∀ w1, At g w1 ⟨(uidL ++ 32 :: (nm ++ r)).toArray⟩ rv kv → Calls Tryz.prog 51 #[PP g] w1 fun e w' => e = .returned (.string ⟨#[117, 105, 100]⟩) ∧ At g w' ⟨(32 :: (nm ++ r)).toArray⟩ rv kv ∧ Kept g w1 w') :=
    Lib.hid (fun w1 hA1 => name_any g _ uidL (32 :: (nm ++ r)) rv kv w1 hA1 (by simp) Hsz1.out (by decide) (by decide) (by rfl))
  have Hn2 : Hid (∀ w1, At g w1 ⟨(nm ++ r).toArray⟩ rv kv → Calls Tryz.prog 51 #[PP g] w1 fun e w' => e = .returned (.string ⟨(smallL nm).toArray⟩) ∧ At g w' ⟨r.toArray⟩ rv kv ∧ Kept g w1 w') :=
    Lib.hid (fun w1 hA1 => name_any g _ nm r rv kv w1 hA1 (by simp) Hsz2.out hnm hna hnb)
  have Hu : Hid (([117, 105, 100], (0 : Int)) ∈ opsT) := Lib.hid (by decide)
  clear hA ht hs hT hnm hna hnb h18 h22
  go_enter Tryz.func24, Tryz.ntmps24
  go_wp2_with fail
  refine HT.out.mono ?_
  generalize (w.alloc (.cells zeroCmd 31)) = W0 at HX0 HK0 hlt0
  rintro e w1 ⟨rfl, hA1, hK1⟩
  have X1 := Lib.hid ((hK1.block _ hlt0 hgx).trans HX0.out)
  have c10 := cells_at (j := 0) X1.out rfl
  have f10 := Lib.frozen_of_heap X1.out 0
  go_wp2_with fail
  have X1' := Lib.hid (heap_setCell_same w1 w.heap.size 0 _ 31 (.string ⟨tag.toArray⟩) X1.out)
  have hA1' := hA1.other (p := ⟨w.heap.size, 0, none⟩) hgx (.string ⟨tag.toArray⟩)
  have hK1' : Kept2 g w.heap.size w (w1.setCell ⟨w.heap.size, 0, none⟩ (.string ⟨tag.toArray⟩)) := ((HK0.out.trans hK1).two _).setx 0 _
  have hlt1 : w.heap.size < (w1.setCell ⟨w.heap.size, 0, none⟩ (.string ⟨tag.toArray⟩)).heap.size := by have := hK1.size; simp; omega
  generalize hW1 : w1.setCell ⟨w.heap.size, 0, none⟩ (.string ⟨tag.toArray⟩) = W1 at *
  clear hW1 c10 f10 hA1 hK1
  refine (eat_has g _ ⟨#[32]⟩ (uidL ++ 32 :: (nm ++ r)) rv kv _ hA1' (space_has _ _ (by simp))).mono ?_
  rintro e w2 ⟨rfl, hA2, hK2⟩
  go_wp2_with fail
  refine (Hn1.out w2 hA2).mono ?_
  rintro e w3 ⟨rfl, hA3, hK3⟩
  have hK3' : Kept2 g w.heap.size w w3 := hK1'.trans ((hK2.trans hK3).two _)
  have X3 := Lib.hid (((hK2.trans hK3).block _ hlt1 hgx).trans X1'.out)
  have hlc := (HL.out w3 hK3').cell
  have hll := (HL.out w3 hK3').look _ Hu.out
  simp only at hll
  have c31 := cells_at (j := 1) X3.out rfl
  have f31 := Lib.frozen_of_heap X3.out 1
  have hlt3 : w.heap.size < w3.heap.size := Nat.lt_of_lt_of_le hlt1 (hK2.trans hK3).size
  clear hA2 hK2 hK3 hK1'
  go_wp2_with fail
  have X4 := Lib.hid (heap_setCell_same w3 w.heap.size 1 _ 31 (.int .i64 0) X3.out)
  have hA4 := hA3.other (p := ⟨w.heap.size, 1, none⟩) hgx (.int .i64 0)
  have hK4 := hK3'.setx 1 (.int .i64 0)
  have hlt4 : w.heap.size < (w3.setCell ⟨w.heap.size, 1, none⟩ (.int .i64 0)).heap.size := by simpa [World.setCell] using hlt3
  clear hlc hll c31 f31 hA3
  generalize hW4 : (w3.setCell ⟨w.heap.size, 1, none⟩ (.int .i64 0)) = W4 at *
  clear hW4
  refine (eat_has g _ ⟨#[32]⟩ (nm ++ r) rv kv _ hA4 (space_has _ _ (by simp))).mono ?_
  rintro e w5 ⟨rfl, hA5, hK5⟩
  have hK5' : Kept2 g w.heap.size w w5 := hK4.trans (hK5.two _)
  have X5 := Lib.hid ((hK5.block _ hlt4 hgx).trans X4.out)
  have hlc5 := (HL.out w5 hK5').cell
  have hlt5 : w.heap.size < w5.heap.size := Nat.lt_of_lt_of_le hlt4 hK5.size
  have hN5 := Lib.hid (Hn2.out w5.drew hA5.drew)
  go_wp2_with fail
  go_region_with (
    go_at_call 51
    refine hN5.out.mono ?_
    rintro e w6 ⟨rfl, hA6, hK6⟩
    have hK6' : Kept2 g w.heap.size w w6 := hK5'.trans (((Kept.refl g w5).drew.trans hK6).two _)
    have X6 := Lib.hid ((((Kept.refl g w5).drew.trans hK6).block _ hlt5 hgx).trans X5.out)
    have hlc6 := (HL.out w6 hK6').cell
    have hll6 := (HL.out w6 hK6').look _ Hop.out
    simp only at hll6
    have c61 := cells_at (j := 1) (v := .int .i64 0) X6.out (by simp [zeroCmd])
    have f61 := Lib.frozen_of_heap X6.out 1
    have c62 := cells_at (j := 2) (v := .bool false) X6.out (by simp [zeroCmd])
    have f62 := Lib.frozen_of_heap X6.out 2)
  all_goals
    have X7 := Lib.hid (heap_setCell_same _ w.heap.size 2 _ 31 (.bool true) (heap_setCell_same w6 w.heap.size 1 _ 31 (.int .i64 op) X6.out))
    have hA7 := (hA6.other (p := ⟨w.heap.size, 1, none⟩) hgx (.int .i64 op)).other (p := ⟨w.heap.size, 2, none⟩) hgx (.bool true)
    have hK7 := (hK6'.setx 1 (.int .i64 op)).setx 2 (.bool true)
    clear hlc6 hll6 c61 f61 c62 f62 hA6
    generalize ((w6.setCell ⟨w.heap.size, 1, none⟩ (.int .i64 op)).setCell ⟨w.heap.size, 2, none⟩ (.bool true)) = W7 at *
    have c71 := cells_at (j := 1) (v := .int .i64 op) X7.out (by simp [zeroCmd])
    have hT7 := Lib.hid (HTk.out W7 hA7 X7.out hK7)
    go_wp2_with fail
    refine (must_yes _).mono ?_
    rintro e w8 ⟨rfl, rfl⟩
    go_wp2_with fail
    refine (must_yes _).mono ?_
    rintro e w8 ⟨rfl, rfl⟩
    go_wp2_with fail
    refine hT7.out.mono ?_
    rintro e w5 ⟨cs, rfl, hCs, X5, ⟨a, cp, hA5⟩, hK5, hR⟩
    obtain ⟨hz5, h15⟩ := HC.out cs hCs
    have HX5 := Lib.hid X5; clear X5
    have Hz5 := Lib.hid hz5; clear hz5
    have H15 := Lib.hid h15; clear h15
    go_wp2_with fail
    refine (over_any g _ a 0 cp kv w5 hA5).mono ?_
    rintro e w6 ⟨rfl, rfl⟩
    have hov : ((⟨#[]⟩ : ByteArray).toList.isEmpty && decide (0 = 0)) = true := by rw [ByteArray.toList_eq]; rfl
    rw [hov]
    go_wp2_with fail
    refine (must_yes _).mono ?_
    rintro e w7 ⟨rfl, rfl⟩
    have hi : (Tryz.prog.info? 31).map (·.size) = some cs.size := by rw [Hz5.out]; kernel_rfl
    go_wp2_with (first | (refine wpList_load_row rfl 31 _ rfl w.heap.size rfl 31 cs (0, 0) _ HX5.out Tryz.underlying31 rfl hi ?_) | (refine wpList_store_row rfl 31 _ _ rfl w.heap.size cs rfl rfl 31 cs HX5.out hi rfl H15.out ?_; rw [setRow_self _ _ _ _ _ HX5.out]))
    refine bodyPost_ret (results_cell_row rfl _ _ w.heap.size 31 cs (0, 0) _ rfl HX5.out Tryz.underlying31 rfl hi) rfl ?_
    exact ⟨cs, rfl, hCs, ⟨a, cp, hA5⟩, hK7.trans hK5, hR⟩

end Go.Proofs.YtjamgkcmpcnfpaaGreatDoor

namespace Go.Proofs.YtjamgkcmpcnfpaaGreatDoor
open Go.RowKit

set_option maxHeartbeats 1000000 in
set_option maxRecDepth 100000 in
theorem takes_noop (g xb : Nat) (w : World) (h1 : w.cell? ⟨xb, 1, none⟩ = some (.int .i64 2)) :
    Calls Tryz.prog 52 #[PP g, .pointer (some ⟨xb, 0, none⟩)] w fun e w' => e = .returned (.tuple #[]) ∧ w = w' := by
  go_enter Tryz.func52, Tryz.ntmps52
  go_wp2_with fail
  first
  | (go_end0; exact ⟨rfl, rfl⟩)
  | (refine bodyPost_ret (results_none rfl _ _ _) rfl ?_; exact ⟨rfl, rfl⟩)

set_option maxHeartbeats 4000000 in
set_option maxRecDepth 100000 in
/-- A command that takes nothing, with something behind it. -/
theorem command_more (g bm : Nat) (t : ByteArray) (tag nm r : List UInt8) (rv kv : Value) (w : World) (hA : At g w t rv kv) (hrv : ∃ a n c, rv = .slice a n c) (ht : t.data.toList = tag ++ 32 :: (nm ++ r)) (hs : t.size ≤ 9223372036854775807) (hr : r ≠ [])
    (htag : tag ≠ []) (ha : allB (atomOr [93]) tag = true) (hl : tag.length ≤ 40) (hp : Lib.indexByte tag 43 < 0)
    (hnm : nm ≠ []) (hna : allB nameB nm = true) (hnb : stopB nameB r = true) (hop : (smallL nm, (2 : Int)) ∈ opsT) (h0 : (2 : Int) ≠ 0) (huid : smallL nm ≠ [117, 105, 100])
    (hLook : ∀ W, Kept2 g w.heap.size w W → Look bm W) :
    Calls Tryz.prog 24 #[PP g] w fun e w' => e = Wrong ∧ Kept2 g w.heap.size w w' := by
  obtain ⟨a, n, c, hrv⟩ := hrv
  subst hrv
  have hT := tag_any g t tag (32 :: (nm ++ r)) (.slice a n c) kv (w.alloc (.cells zeroCmd 31)) (hA.alloc _) ht hs htag ha (show (!(atomOr [93] ((32 : UInt8).toNat : Int))) = true from by decide) hl hp
  have hsz2 : (⟨(nm ++ r).toArray⟩ : ByteArray).size ≤ 9223372036854775807 := by rw [size_bytes, ht] at hs; rw [size_bytes]; simp at hs ⊢; omega
  have Hsz2 := Lib.hid hsz2; clear hsz2
  have hX0 : (w.alloc (.cells zeroCmd 31)).heap[w.heap.size]? = some (.cells zeroCmd 31 (0, 0)) := heap_alloc_at _ _ _ rfl
  have hK0 : Kept g w (w.alloc (.cells zeroCmd 31)) := (Kept.refl _ _).alloc _
  have hlt0 : w.heap.size < (w.alloc (.cells zeroCmd 31)).heap.size := by simp
  have hgx : w.heap.size ≠ g := by have := hA.lt; omega
  have HT := Lib.hid hT; clear hT
  have HX0 := Lib.hid hX0; clear hX0
  have HK0 := Lib.hid hK0; clear hK0
  have HL := Lib.hid hLook; clear hLook
  have hop0 : ((2:Int) != 0) = true := by rw [bne_iff_ne]; exact h0
  have Hop := Lib.hid hop; clear hop
  have huid' : (smallL nm == [117, 105, 100]) = false := by simpa using huid
  have Hn : Hid (∀ w1, At g w1 ⟨(nm ++ r).toArray⟩ (.slice a n c) kv → Calls Tryz.prog 51 #[PP g] w1 fun e w' => e = .returned (.string ⟨(smallL nm).toArray⟩) ∧ At g w' ⟨r.toArray⟩ (.slice a n c) kv ∧ Kept g w1 w') :=
    Lib.hid (fun w1 hA1 => name_any g _ nm r (.slice a n c) kv w1 hA1 (by simp) Hsz2.out hnm hna hnb)
  have hov0 : ((⟨r.toArray⟩ : ByteArray).toList.isEmpty && decide (n = 0)) = false := by rw [nonempty_list _ (by simpa using hr)]; rfl
  have hov := Lib.hid hov0; clear hov0
  clear hA ht hs htag ha hl hp hnm hna hnb h0 huid hr
  go_enter Tryz.func24, Tryz.ntmps24
  go_wp2_with fail
  refine HT.out.mono ?_
  generalize (w.alloc (.cells zeroCmd 31)) = W0 at HX0 HK0 hlt0
  rintro e w1 ⟨rfl, hA1, hK1⟩
  have X1 := Lib.hid ((hK1.block _ hlt0 hgx).trans HX0.out)
  have c10 := cells_at (j := 0) X1.out rfl
  have f10 := Lib.frozen_of_heap X1.out 0
  go_wp2_with fail
  have X1' := Lib.hid (heap_setCell_same w1 w.heap.size 0 _ 31 (.string ⟨tag.toArray⟩) X1.out)
  have hA1' := hA1.other (p := ⟨w.heap.size, 0, none⟩) hgx (.string ⟨tag.toArray⟩)
  have hK1' : Kept2 g w.heap.size w (w1.setCell ⟨w.heap.size, 0, none⟩ (.string ⟨tag.toArray⟩)) := ((HK0.out.trans hK1).two _).setx 0 _
  have hlt1 : w.heap.size < (w1.setCell ⟨w.heap.size, 0, none⟩ (.string ⟨tag.toArray⟩)).heap.size := by have := hK1.size; simp; omega
  generalize hW1 : w1.setCell ⟨w.heap.size, 0, none⟩ (.string ⟨tag.toArray⟩) = W1 at *
  clear hW1 c10 f10 hA1 hK1
  refine (eat_has g _ ⟨#[32]⟩ (nm ++ r) (.slice a n c) kv _ hA1' (space_has _ _ (by simp))).mono ?_
  rintro e w2 ⟨rfl, hA2, hK2⟩
  go_wp2_with fail
  refine (Hn.out w2 hA2).mono ?_
  rintro e w3 ⟨rfl, hA3, hK3⟩
  have hK3' : Kept2 g w.heap.size w w3 := hK1'.trans ((hK2.trans hK3).two _)
  have X3 := Lib.hid (((hK2.trans hK3).block _ hlt1 hgx).trans X1'.out)
  have hlc := (HL.out w3 hK3').cell
  have hll := (HL.out w3 hK3').look _ Hop.out
  simp only at hll
  have c31 := cells_at (j := 1) X3.out rfl
  have f31 := Lib.frozen_of_heap X3.out 1
  have hlt3 : w.heap.size < w3.heap.size := Nat.lt_of_lt_of_le hlt1 (hK2.trans hK3).size
  clear hA2 hK2 hK3 hK1'
  go_wp2_with fail
  refine (must_yes _).mono ?_
  rintro e w4 ⟨rfl, rfl⟩
  have X4 := heap_setCell_same w3 w.heap.size 1 _ 31 (.int .i64 2) X3.out
  have hA4 := hA3.other (p := ⟨w.heap.size, 1, none⟩) hgx (.int .i64 2)
  have hK4 := hK3'.setx 1 (.int .i64 2)
  have c4 := cells_at (j := 1) (v := .int .i64 2) X4 (by simp [zeroCmd])
  have hT4 := Lib.hid (takes_noop g w.heap.size _ c4)
  clear X4 c4 hlc hll c31 f31 hA3
  go_wp2_with fail
  refine hT4.out.mono ?_
  rintro e w5 ⟨rfl, rfl⟩
  go_wp2_with fail
  refine (over_any g _ a n c kv _ hA4).mono ?_
  rintro e w6 ⟨rfl, rfl⟩
  rw [hov.out]
  go_wp2_with fail
  refine (must_no _).mono ?_
  rintro e w7 ⟨rfl, rfl⟩
  go_wp2_with fail
  exact ⟨rfl, rfl, hK4⟩

/-- The reading of a line ends in a panic of 'must'. -/
def Fails (p0 : ByteArray) (rv : Value) (w : World) : Prop :=
  ∀ g w1, w.heap.size ≤ g → At g w1 p0 rv (.slice none 0 0) → Below w.heap.size w w1 → w1.heap.size = w.heap.size + 4 →
    Calls Tryz.prog 24 #[PP g] w1 fun e w' => e = Wrong ∧ Kept2 g w1.heap.size w1 w'

set_option maxHeartbeats 2000000 in
set_option maxRecDepth 100000 in
theorem Parse2_no (p0 : ByteArray) (rv : Value) (pb g : Nat) (w W : World) (hW : PW w p0 rv pb g W) (hG : Fails p0 rv w) :
    Calls Tryz.prog 23 #[.pointer (some ⟨pb, 0, none⟩), .pointer (some ⟨w.heap.size, 0, none⟩)] (W.alloc (.cells #[.bool false] 4)) fun e w' => e = Wrong ∧ Kept2 g (w.heap.size + 4) (W.alloc (.cells #[.bool false] 4)) w' := by
  have hat := hW.at_
  have hsz := hW.size
  have hpb := cell_of_block ((heap_alloc_lt W (.cells #[.bool false] 4) pb (by omega)).trans hW.p)
  have hg' := hG g (W.alloc (.cells #[.bool false] 4)) (by omega) (hW.a.alloc _) (hW.below.alloc (by omega) _) (by simp [hsz])
  have e4 : (W.alloc (.cells #[.bool false] 4)).heap.size = w.heap.size + 4 := by simp [hsz]
  rw [e4] at hg'
  have HG := Lib.hid hg'; clear hg'
  clear hat
  generalize W.alloc (.cells #[.bool false] 4) = W4 at *
  clear hW hG hsz e4
  go_enter Tryz.func23, Tryz.ntmps23
  go_wp2_with fail
  refine HG.out.mono ?_
  rintro e w2 ⟨rfl, hK⟩
  go_wp2_with fail
  exact ⟨rfl, rfl, hK⟩

theorem parse_try_no (p0 : ByteArray) (rv : Value) (pb g : Nat) (w W : World) (hW : PW w p0 rv pb g W) (hG : Fails p0 rv w) :
    Calls Tryz.prog 22 #[.func (.func 23) #[] #[.pointer (some ⟨pb, 0, none⟩), .pointer (some ⟨w.heap.size, 0, none⟩)]] W fun e w' => e = .returned (.bool false) ∧ w'.heap[w.heap.size]? = some (.cells zeroCmd 31 (0, 0)) ∧ Below w.heap.size w w' := by
  have hat := hW.at_
  have hsz := hW.size
  have e4 : (W.alloc (.cells #[.bool false] 4)).heap.size = w.heap.size + 4 := by simp [hsz]
  refine try_no 23 _ (enters_of Tryz.func23 (by kernel_rfl) rfl) W _ ((Parse2_no p0 rv pb g w W hW hG).mono ?_)
  rintro e w' ⟨rfl, hK⟩
  have h3 : w'.heap[W.heap.size]? = some (.cells #[.bool false] 4 (0, 0)) := (hK.block _ (by simp) (by omega) (by omega)).trans (heap_alloc_at _ _ _ rfl)
  have h0 : w'.heap[w.heap.size]? = some (.cells zeroCmd 31 (0, 0)) := (hK.block _ (by omega) (by omega) (by omega)).trans ((heap_alloc_lt _ _ _ (by omega)).trans hW.x)
  have hlt := (Array.getElem?_eq_some_iff.1 h0).1
  refine ⟨rfl, h3, ?_, ?_⟩
  · rw [setCell_heap_loop (by simp only []; omega), heap_alloc_lt _ _ _ hlt]; exact h0
  · have hb := hW.below
    have hs := hK.size
    refine (hb.trans ((hK.below (B := w.heap.size) (by omega) (by omega) (by omega)) |> fun k => ((Below.refl _ W).alloc (by omega) _).trans k)).trans ?_
    exact ((Below.refl _ w').alloc (by omega) _).setCell (by simp only []; omega) _

set_option maxHeartbeats 4000000 in
set_option maxRecDepth 100000 in
/-- Parse, at a line of one part that is refused. -/
theorem parse_no (b : Nat) (p0 : ByteArray) (w : World) (hs : p0.size ≤ 2000) (hc : w.cell? ⟨b, 0, none⟩ = some (.string p0)) (hG : Fails p0 (.slice (some ⟨b, 0, none⟩) 0 0) w) :
    Calls Tryz.prog 10 #[.slice (some ⟨b, 0, none⟩) 1 1] w fun e w' => e = .returned (.tuple #[.agg zeroCmd, .int .i64 3]) ∧ Below w.heap.size w w' := by
  have hb0 : b < w.heap.size := World.block_lt_of_cell? _ _ hc
  have hc0 := (World.cell?_alloc_lt w (.cells zeroCmd 31) ⟨b, 0, none⟩ hb0).trans hc
  have hCF := ContainsFunc_long b 0 1 1 [p0] (w.alloc (.cells zeroCmd 31)) rfl (by omega) (fun j hj => by
    obtain rfl : j = 0 := by omega
    exact hc0) (fun j hj => by
    obtain rfl : j = 0 := by omega
    exact hs)
  have HCF := Lib.hid hCF; clear hCF
  have HG := Lib.hid hG; clear hG
  have hmf : ∀ (fn : Fn) (first cap : Array Value) (w : World), (Instr.makeFunc fn first cap).run Tryz.prog w = .ok (.func fn first cap) w := fun _ _ _ _ => rfl
  clear hc hs
  have hi : (Tryz.prog.info? 31).map (·.size) = some zeroCmd.size := by kernel_rfl
  go_enter Tryz.func10, Tryz.ntmps10
  go_wp2_with fail
  refine HCF.out.mono ?_
  rintro e w1 ⟨rfl, rfl⟩
  go_wp2_with fail
  go_region
  all_goals go_wp2_with fail
  all_goals
    first
    | (refine (parse_try_no p0 _ (w.heap.size + 1) (w.heap.size + 2) w _ (pw_a w p0 _) HG.out).mono ?_)
    | (refine (parse_try_no p0 _ (w.heap.size + 2) (w.heap.size + 1) w _ (pw_b w p0 _) HG.out).mono ?_)
    rintro e w5 ⟨rfl, hx, hB⟩
    have Hx := Lib.hid hx; clear hx
    go_wp2_with (refine wpList_store_row rfl 31 _ _ rfl w.heap.size zeroCmd rfl rfl 31 zeroCmd Hx.out hi rfl (by simp [zeroCmd, Value.oneCell']) ?_; rw [setRow_self _ _ _ _ _ Hx.out])
    exact bodyPost_ret (results_parse rfl rfl Hx.out hi) rfl ⟨rfl, hB⟩

end Go.Proofs.YtjamgkcmpcnfpaaGreatDoor

namespace Go.Proofs.YtjamgkcmpcnfpaaGreatDoor
open Go.RowKit

set_option maxHeartbeats 1000000 in
set_option maxRecDepth 100000 in
theorem Tag1_any (g pb sb : Nat) (t z : ByteArray) (tag r : List UInt8) (rv kv : Value) (w : World) (hA : At g w t rv kv) (ht : t.data.toList = tag ++ 32 :: r) (hs : t.size ≤ 9223372036854775807) (hT : TagOk tag)
    (hp : w.cell? ⟨pb, 0, none⟩ = some (PP g)) (hb : w.heap[sb]? = some (.cells #[.string z] 9 (0, 0))) (hpg : pb ≠ g) (hsg : sb ≠ g) :
    Calls Tryz.prog 31 #[.pointer (some ⟨pb, 0, none⟩), .pointer (some ⟨sb, 0, none⟩)] w fun e w' => e = .returned (.tuple #[]) ∧ ∃ w1, w' = w1.setCell ⟨sb, 0, none⟩ (.string ⟨tag.toArray⟩) ∧ Kept g w w1 := by
  have hT' := tag_any g t tag (32 :: r) rv kv w hA ht hs hT.ne hT.all (show (!(atomOr [93] ((32 : UInt8).toNat : Int))) = true from by decide) hT.len hT.plus
  have HT := Lib.hid hT'; clear hT'
  have hplt := World.block_lt_of_cell? _ _ hp
  have hslt := (Array.getElem?_eq_some_iff.1 hb).1
  simp only at hplt
  have Hb := Lib.hid hb; clear hb
  have Hp := Lib.hid hp
  clear hA ht hs hT
  go_enter Tryz.func31, Tryz.ntmps31
  go_wp2_with fail
  refine HT.out.mono ?_
  rintro e w1 ⟨rfl, hA1, hK1⟩
  clear hp
  have hp1 := (hK1.cell (p := ⟨pb, 0, none⟩) hplt hpg).trans Hp.out
  have hb1 := (hK1.block sb hslt hsg).trans Hb.out
  have c1 := cell_of_block hb1
  have f1 := frozen_of_block hb1
  have h0 := hA1.c0
  have hemp : (⟨(32 :: r).toArray⟩ : ByteArray).toList.isEmpty = false := nonempty_list _ (by simp)
  go_wp2_with fail
  refine (must_yes _).mono ?_
  rintro e w2 ⟨rfl, rfl⟩
  go_wp2_with fail
  first
  | (go_end0; exact ⟨rfl, w1, rfl, hK1⟩)
  | exact ⟨rfl, _, results_none rfl _ _ _, rfl, w1, rfl, hK1⟩
  | (refine bodyPost_ret (results_none rfl _ _ _) rfl ?_; exact ⟨rfl, w1, rfl, hK1⟩)

set_option maxHeartbeats 4000000 in
set_option maxRecDepth 100000 in
theorem Tag_any (b n c : Nat) (p0 : ByteArray) (tag r : List UInt8) (w : World) (hn : 0 < n) (hnc : n ≤ c) (hcm : c ≤ 1000) (hc : w.cell? ⟨b, 0, none⟩ = some (.string p0)) (ht : p0.data.toList = tag ++ 32 :: r) (hs : p0.size ≤ 9223372036854775807) (hT : TagOk tag) :
    Calls Tryz.prog 17 #[.slice (some ⟨b, 0, none⟩) n c] w fun e w' => e = .returned (.string ⟨tag.toArray⟩) ∧ Below w.heap.size w w' := by
  have hb0 : b < w.heap.size := World.block_lt_of_cell? _ _ hc
  have hc0 := (World.cell?_alloc_lt w (.cells #[.string ⟨#[42]⟩] 9) ⟨b, 0, none⟩ hb0).trans hc
  have hmf : ∀ (fn : Fn) (first cap : Array Value) (w : World), (Instr.makeFunc fn first cap).run Tryz.prog w = .ok (.func fn first cap) w := fun _ _ _ _ => rfl
  have key : ∀ W : World, W = ((w.alloc (.cells #[.string ⟨#[42]⟩] 9)).alloc (.cells #[.string p0, .slice none 0 0, .slice none 0 0] 51)).alloc (.cells #[.pointer (some ⟨w.heap.size + 1, 0, none⟩)] 49) →
      Calls Tryz.prog 22 #[.func (.func 31) #[] #[.pointer (some ⟨w.heap.size + 2, 0, none⟩), .pointer (some ⟨w.heap.size, 0, none⟩)]] W fun e w' => e = .returned (.bool true) ∧ w'.cell? ⟨w.heap.size, 0, none⟩ = some (.string ⟨tag.toArray⟩) ∧ Below w.heap.size w w' := by
    intro W hW
    have hsz : W.heap.size = w.heap.size + 3 := by rw [hW]; simp
    have hS : W.heap[w.heap.size]? = some (.cells #[.string ⟨#[42]⟩] 9 (0, 0)) := by
      rw [hW, heap_alloc_lt _ _ _ (by simp only [World.size_alloc]; omega), heap_alloc_lt _ _ _ (by simp only [World.size_alloc]; omega), heap_alloc_at _ _ _ rfl]
    have hP : W.heap[w.heap.size + 2]? = some (.cells #[.pointer (some ⟨w.heap.size + 1, 0, none⟩)] 49 (0, 0)) := by
      rw [hW, heap_alloc_at _ _ _ (by simp only [World.size_alloc])]
    have hG : W.heap[w.heap.size + 1]? = some (.cells #[.string p0, .slice none 0 0, .slice none 0 0] 51 (0, 0)) := by
      rw [hW, heap_alloc_lt _ _ _ (by simp only [World.size_alloc]; omega), heap_alloc_at _ _ _ (by simp only [World.size_alloc])]
    have hB : Below w.heap.size w W := by
      rw [hW]; exact (((Below.refl _ w).alloc (by omega) _).alloc (by simp only [World.size_alloc]; omega) _).alloc (by simp only [World.size_alloc]; omega) _
    clear hW
    refine try_yes 31 _ (enters_of Tryz.func31 (by kernel_rfl) rfl) W _ ((Tag1_any (w.heap.size + 1) (w.heap.size + 2) w.heap.size p0 ⟨#[42]⟩ tag r _ _ (W.alloc (.cells #[.bool false] 4)) ((At.of_block hG).alloc _) ht hs hT
      (cell_of_block ((heap_alloc_lt _ _ _ (by omega)).trans hP)) ((heap_alloc_lt _ _ _ (by omega)).trans hS) (by omega) (by omega)).mono ?_)
    rintro e w' ⟨rfl, w1, rfl, hK⟩
    have h3 : w1.heap[W.heap.size]? = some (.cells #[.bool false] 4 (0, 0)) := (hK.block _ (by simp) (by omega)).trans (heap_alloc_at _ _ _ rfl)
    have h4 : w1.heap[w.heap.size]? = some (.cells #[.string ⟨#[42]⟩] 9 (0, 0)) := (hK.block _ (by simp; omega) (by omega)).trans ((heap_alloc_lt _ _ _ (by omega)).trans hS)
    refine ⟨rfl, ?_, ?_, ?_⟩
    · rw [setCell_heap_loop (by simp only []; omega)]; exact h3
    · rw [World.cell?_setCell_other _ _ _ _ (by intro h; injection h with h; omega)]
      exact World.cell?_setCell_same _ _ _ (cell_of_block h4)
    · have hb1 : Below w.heap.size w w1 := hB.trans (((Below.refl _ W).alloc (by omega) _).trans (hK.below (by omega) (by simp; omega)))
      exact (hb1.setCell (by simp only []; omega) _).setCell (by simp only []; omega) _
  have Hkey := Lib.hid key; clear key
  clear hc ht hs hT
  have hn' : decide ((0 : Int) < (n : Int)) = true := by simp; omega
  go_enter Tryz.func17, Tryz.ntmps17
  go_wp2_with fail
  refine (Hkey.out _ rfl).mono ?_
  rintro e w1 ⟨rfl, h1, hB⟩
  go_wp2_with fail
  go_ret
  exact ⟨rfl, hB⟩

end Go.Proofs.YtjamgkcmpcnfpaaGreatDoor

namespace Go.Proofs.YtjamgkcmpcnfpaaGreatDoor
open Go.RowKit

/-- a UID STORE 1:3 +FLAGS.SILENT (\Seen) -/
def line1 : ByteArray := ⟨#[97, 32, 85, 73, 68, 32, 83, 84, 79, 82, 69, 32, 49, 58, 51, 32, 43, 70, 76, 65, 71, 83, 46, 83, 73, 76, 69, 78, 84, 32, 40, 92, 83, 101, 101, 110, 41]⟩
/-- b APPEND inbox -/
def line2 : ByteArray := ⟨#[98, 32, 65, 80, 80, 69, 78, 68, 32, 105, 110, 98, 111, 120, 32]⟩
/-- b NOOP -/
def line3 : ByteArray := ⟨#[98, 32, 78, 79, 79, 80, 32]⟩

/-- 1:3 -/
def setL : List UInt8 := [49, 58, 51]

theorem set_ok : SetOk setL [(1, 3)] := by
  refine ⟨by decide, by decide, [setL], rfl, by decide, ?_, rfl, ?_⟩
  · intro x hx; simp at hx; subst hx; decide
  · intro i hi
    obtain rfl : i = 0 := by simpa using hi
    show PartOk setL 1 3
    refine ⟨[49], [51], true, by rfl, .inr ⟨by decide, by rfl, by decide, by decide, by decide, by decide, by decide, by decide⟩, .inr ⟨by decide, by rfl, by decide, by decide, by decide, by decide, by decide, by decide⟩, by decide, by decide⟩

theorem tag_a : TagOk [97] := ⟨by decide, by decide, by decide, by decide⟩
theorem tag_b : TagOk [98] := ⟨by decide, by decide, by decide, by decide⟩

/-- The cells of the first line's command. -/
def cmd1 (A : Option Addr) (c : Nat) : Array Value :=
  #[.string ⟨#[97]⟩, .int .i64 21, .bool true, .string ⟨#[]⟩, .string ⟨#[]⟩, .slice A 1 c, .int .i64 1, .bool true, .int .i64 1, .int .i64 0, .int .i64 0, .string ⟨#[]⟩, .slice none 0 0, .slice none 0 0, .slice none 0 0]

set_option maxRecDepth 10000 in
theorem parse_store (B b : Nat) (w : World) (hE : Env B w) (hc : w.cell? ⟨b, 0, none⟩ = some (.string line1)) :
    Calls Tryz.prog 10 #[.slice (some ⟨b, 0, none⟩) 1 1] w fun e w' => ∃ A c, e = .returned (.tuple #[.agg (cmd1 A c), .int .i64 0]) ∧ Below w.heap.size w w' := by
  have hB9 := hE.nine
  have hBle := hE.le
  obtain ⟨m, hm⟩ := hE.m
  obtain ⟨bm, hl⟩ := hE.look
  obtain ⟨ty, fr, h9⟩ := hE.flags
  have h := parse_one b line1 w (by decide) hc (fun cs => ∃ A c, cs = cmd1 A c) (by rintro cs ⟨A, c, rfl⟩; exact ⟨rfl, by simp [cmd1, Value.oneCell']⟩) _ (stays_true _) (fun g w1 hg hA hb hsz => by
      have hlt1 := hA.lt
      refine command_uid g bm line1 [97] [83, 84, 79, 82, 69] (32 :: (setL ++ tailL)) 21 _ _ w1 hA (by decide) (by decide) tag_a (by decide) (by decide) (by decide) (by decide) (by decide) (by decide)
        (fun W hW => hl W ((hb.mono hE.le).trans (hW.below (by omega) (by omega) (by omega)))) _ (by rintro cs ⟨A, c, rfl⟩; exact ⟨rfl, by simp [cmd1, Value.oneCell']⟩) _ ?_
      intro w2 hA2 hX hK
      have hsz12 := hK.size
      have hxlt := (Array.getElem?_eq_some_iff.1 hX).1
      refine (takes_own g w1.heap.size 21 88 (.inr ⟨rfl, rfl⟩) _ (setL ++ tailL) _ _ w2 (fun w' => ∃ cs, (∃ A c, cs = cmd1 A c) ∧ w'.heap[w1.heap.size]? = some (.cells cs 31 (0, 0)) ∧ Done g (.slice none 0 0) w' ∧ Kept2 g w1.heap.size w2 w' ∧ True) hA2 rfl (by omega) (cells_at hX (by simp [uidC, zeroCmd])) (fun w3 hA3 hK3 => ?_)).mono ?_
      · have hb13 : Below w.heap.size w w3 := hb.trans ((hK.trans (hK3.two _)).below (by omega) (by omega) (by omega))
        have hS := set_any g _ setL tailL [(1, 3)] _ _ m w3 hA3 (by simp) (by decide) (by decide) (by decide) (by decide) set_ok ((hb13.cell (p := ⟨4, 0, none⟩) (by have := hE.four; show 4 < _; omega)).trans hm) (by have := hE.four; omega)
        refine (store_seen g w1.heap.size _ (.slice none 0 0) false 0 0 (.slice (some ⟨b, 0, none⟩) 0 0) (.slice none 0 0) ty fr w3 (by omega) hA3.lt (by omega) (by omega) ((hb13.block 9 (by omega)).trans h9) ((hK3.block _ hxlt (by omega)).trans hX) (by simp [uidC, zeroCmd]) (by simp [uidC, zeroCmd]) (by simp [uidC, zeroCmd]) (by simp [uidC, zeroCmd]) (hS.mono ?_)).mono ?_
        · rintro e w4 ⟨v, rfl, hA4, hK4, ho⟩
          rcases ho.2 with ⟨rfl, hl0⟩ | ⟨g', cap, cur, rfl, _⟩
          · cases hl0
          · exact ⟨_, _, rfl, hA4, hK4⟩
        · rintro e w4 ⟨rfl, A, c, hX4, hA4, hK4⟩
          exact ⟨rfl, _, ⟨A, c, by simp [uidC, zeroCmd, cmd1]⟩, hX4, ⟨_, _, hA4⟩, (hK3.two _).trans hK4, trivial⟩
      · rintro e w4 ⟨rfl, cs, hcs, hX4, hD4, hK4, _⟩
        exact ⟨_, rfl, hcs, hX4, hD4, hK4, trivial⟩)
  refine h.mono ?_
  rintro e w' ⟨cs, rfl, ⟨A, c, rfl⟩, hb, _⟩
  exact ⟨A, c, rfl, hb⟩

theorem parse_noop (B b : Nat) (w : World) (hE : Env B w) (hc : w.cell? ⟨b, 0, none⟩ = some (.string line3)) :
    Calls Tryz.prog 10 #[.slice (some ⟨b, 0, none⟩) 1 1] w fun e w' => e = .returned (.tuple #[.agg zeroCmd, .int .i64 3]) ∧ Below w.heap.size w w' := by
  have hBle := hE.le
  obtain ⟨bm, hl⟩ := hE.look
  refine parse_no b line3 w (by decide) hc (fun g w1 hg hA hb hsz => ?_)
  have hlt1 := hA.lt
  exact command_more g bm line3 [98] [78, 79, 79, 80] [32] _ _ w1 hA ⟨_, _, _, rfl⟩ (by decide) (by decide) (by decide) tag_b.ne tag_b.all tag_b.len tag_b.plus (by decide) (by decide) (by decide) (by decide) (by decide) (by decide)
    (fun W hW => hl W ((hb.mono hE.le).trans (hW.below (by omega) (by omega) (by omega))))

/-- inbox -/
def inboxB : ByteArray := ⟨#[105, 110, 98, 111, 120]⟩

end Go.Proofs.YtjamgkcmpcnfpaaGreatDoor

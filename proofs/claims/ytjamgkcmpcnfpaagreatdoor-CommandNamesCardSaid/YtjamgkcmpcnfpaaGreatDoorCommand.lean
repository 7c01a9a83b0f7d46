/-
  The parser's 'command', at a plain name.
-/
import Derived.Test.YtjamgkcmpcnfpaaGreatDoorTakes
import Derived.Laws.Rows
import Derived.Laws.Tables
import Derived.Laws.CopyRow
namespace Go.Proofs.YtjamgkcmpcnfpaaGreatDoor
open Go.RowKit

/-- The names that the walks look up, and what they stand for. -/
def opsT : List (List UInt8 × Int) :=
  [([115, 101, 108, 101, 99, 116], 5), ([99, 114, 101, 97, 116, 101], 7), ([100, 101, 108, 101, 116, 101], 8), ([115, 117, 98, 115, 99, 114, 105, 98, 101], 10), ([99, 111, 112, 121], 22),
   ([117, 105, 100], 0), ([115, 116, 111, 114, 101], 21), ([97, 112, 112, 101, 110, 100], 15), ([110, 111, 111, 112], 2)]

/-- The map of names, in a world. -/
structure Look (bm : Nat) (W : World) : Prop where
  cell : W.cell? ⟨0, 0, none⟩ = some (.map (some bm))
  look : ∀ p ∈ opsT, (Instr.lookup 85 (.map (some bm)) (.string ⟨p.1.toArray⟩) false).run Tryz.prog W = .ok (.int .i64 p.2) W

def zeroCmd : Array Value := #[.string ⟨#[]⟩, .int .i64 0, .bool false, .string ⟨#[]⟩, .string ⟨#[]⟩, .slice none 0 0, .int .i64 0, .bool false, .int .i64 0, .int .i64 0, .int .i64 0, .string ⟨#[]⟩, .slice none 0 0, .slice none 0 0, .slice none 0 0]

set_option maxHeartbeats 4000000 in
set_option maxRecDepth 100000 in
theorem command_plain (g bm : Nat) (t : ByteArray) (tag nm r : List UInt8) (op : Int) (rv kv : Value) (w : World) (hA : At g w t rv kv) (ht : t.data.toList = tag ++ 32 :: (nm ++ r)) (hs : t.size ≤ 9223372036854775807)
    (htag : tag ≠ []) (ha : allB (atomOr [93]) tag = true) (hl : tag.length ≤ 40) (hp : Lib.indexByte tag 43 < 0)
    (hnm : nm ≠ []) (hna : allB nameB nm = true) (hnb : stopB nameB r = true) (hop : (smallL nm, op) ∈ opsT) (h0 : op ≠ 0) (huid : smallL nm ≠ [117, 105, 100])
    (hLook : ∀ W, Kept2 g w.heap.size w W → Look bm W)
    (C : Array Value → Prop) (hC : ∀ cs, C cs → cs.size = 15 ∧ cs.all (·.oneCell') = true) (R : Array Value → World → Prop)
    (hTakes : ∀ w1, At g w1 ⟨r.toArray⟩ rv kv → w1.heap[w.heap.size]? = some (.cells ((zeroCmd.setIfInBounds 0 (.string ⟨tag.toArray⟩)).setIfInBounds 1 (.int .i64 op)) 31 (0, 0)) → Kept2 g w.heap.size w w1 →
      Calls Tryz.prog 52 #[PP g, .pointer (some ⟨w.heap.size, 0, none⟩)] w1 fun e w' => ∃ cs, e = .returned (.tuple #[]) ∧ C cs ∧ w'.heap[w.heap.size]? = some (.cells cs 31 (0, 0)) ∧ Done g kv w' ∧ Kept2 g w.heap.size w1 w' ∧ R cs w') :
    Calls Tryz.prog 24 #[PP g] w fun e w' => ∃ cs, e = .returned (.agg cs) ∧ C cs ∧ Done g kv w' ∧ Kept2 g w.heap.size w w' ∧ R cs w' := by
  have hT := tag_any g t tag (32 :: (nm ++ r)) rv kv (w.alloc (.cells zeroCmd 31)) (hA.alloc _) ht hs htag ha (show (!(atomOr [93] ((32 : UInt8).toNat : Int))) = true from by decide) hl hp
  have hsz2 : (⟨(nm ++ r).toArray⟩ : ByteArray).size ≤ 9223372036854775807 := by rw [size_bytes, ht] at hs; rw [size_bytes]; simp at hs ⊢; omega
  have Hsz2 := Lib.hid hsz2; clear hsz2
  have hX0 : (w.alloc (.cells zeroCmd 31)).heap[w.heap.size]? = some (.cells zeroCmd 31 (0, 0)) := heap_alloc_at _ _ _ rfl
  have hK0 : Kept g w (w.alloc (.cells zeroCmd 31)) := (Kept.refl _ _).alloc _
  have hlt0 : w.heap.size < (w.alloc (.cells zeroCmd 31)).heap.size := by simp
  have hgx : w.heap.size ≠ g := by have := hA.lt; omega
  have HT := Lib.hid hT; clear hT
  have HX0 := Lib.hid hX0; clear hX0
  have HK0 := Lib.hid hK0; clear hK0
  have HL := Lib.hid hLook; clear hLook
  have HTk := Lib.hid hTakes; clear hTakes
  have HC := Lib.hid hC; clear hC
  have hop0 : (op != 0) = true := by rw [bne_iff_ne]; exact h0
  have Hop := Lib.hid hop; clear hop
  have huid' : (smallL nm == [117, 105, 100]) = false := by simpa using huid
  have Hn : Hid (∀ w1, At g w1 ⟨(nm ++ r).toArray⟩ rv kv → Calls Tryz.prog 51 #[PP g] w1 fun e w' => e = .returned (.string ⟨(smallL nm).toArray⟩) ∧ At g w' ⟨r.toArray⟩ rv kv ∧ Kept g w1 w') :=
    Lib.hid (fun w1 hA1 => name_any g _ nm r rv kv w1 hA1 (by simp) Hsz2.out hnm hna hnb)
  clear hA ht hs htag ha hl hp hnm hna hnb h0 huid
  go_enter Tryz.func24, Tryz.ntmps24
  go_wp2_with fail
  refine HT.out.mono ?_
  generalize (w.alloc (.cells zeroCmd 31)) = W0 at HX0 HK0 hlt0
  rintro e w1 ⟨rfl, hA1, hK1⟩
  have X1 := Lib.hid ((hK1.block _ hlt0 hgx).trans HX0.out)
  have c10 := cells_at (j := 0) X1.out rfl
  have f10 := Lib.frozen_of_heap X1.out 0
  go_wp2_with fail
  have X1' := Lib.hid (heap_setCell_same w1 w.heap.size 0 _ 31 (.string ⟨tag.toArray⟩) X1.out)
  have hA1' := hA1.other (p := ⟨w.heap.size, 0, none⟩) hgx (.string ⟨tag.toArray⟩)
  have hK1' : Kept2 g w.heap.size w (w1.setCell ⟨w.heap.size, 0, none⟩ (.string ⟨tag.toArray⟩)) := ((HK0.out.trans hK1).two _).setx 0 _
  have hlt1 : w.heap.size < (w1.setCell ⟨w.heap.size, 0, none⟩ (.string ⟨tag.toArray⟩)).heap.size := by have := hK1.size; simp; omega
  generalize hW1 : w1.setCell ⟨w.heap.size, 0, none⟩ (.string ⟨tag.toArray⟩) = W1 at *
  clear hW1 c10 f10 hA1 hK1
  refine (eat_has g _ ⟨#[32]⟩ (nm ++ r) rv kv _ hA1' (space_has _ _ (by simp))).mono ?_
  rintro e w2 ⟨rfl, hA2, hK2⟩
  go_wp2_with fail
  refine (Hn.out w2 hA2).mono ?_
  rintro e w3 ⟨rfl, hA3, hK3⟩
  have hK3' : Kept2 g w.heap.size w w3 := hK1'.trans ((hK2.trans hK3).two _)
  have X3 := Lib.hid (((hK2.trans hK3).block _ hlt1 hgx).trans X1'.out)
  have hlc := (HL.out w3 hK3').cell
  have hll := (HL.out w3 hK3').look _ Hop.out
  simp only at hll
  have c31 := cells_at (j := 1) X3.out rfl
  have f31 := Lib.frozen_of_heap X3.out 1
  have hlt3 : w.heap.size < w3.heap.size := Nat.lt_of_lt_of_le hlt1 (hK2.trans hK3).size
  clear hA2 hK2 hK3 hK1'
  go_wp2_with fail
  refine (must_yes _).mono ?_
  rintro e w4 ⟨rfl, rfl⟩
  have X4 := heap_setCell_same w3 w.heap.size 1 _ 31 (.int .i64 op) X3.out
  have hA4 := hA3.other (p := ⟨w.heap.size, 1, none⟩) hgx (.int .i64 op)
  have hK4 := hK3'.setx 1 (.int .i64 op)
  have hT4 := Lib.hid (HTk.out _ hA4 X4 hK4)
  clear X4 hA4 hlc hll c31 f31 hA3
  go_wp2_with fail
  refine hT4.out.mono ?_
  rintro e w5 ⟨cs, rfl, hCs, X5, ⟨a, cp, hA5⟩, hK5, hR⟩
  obtain ⟨hz5, h15⟩ := HC.out cs hCs
  have HX5 := Lib.hid X5; clear X5
  have Hz5 := Lib.hid hz5; clear hz5
  have H15 := Lib.hid h15; clear h15
  go_wp2_with fail
  refine (over_any g _ a 0 cp kv w5 hA5).mono ?_
  rintro e w6 ⟨rfl, rfl⟩
  have hov : ((⟨#[]⟩ : ByteArray).toList.isEmpty && decide (0 = 0)) = true := by rw [ByteArray.toList_eq]; rfl
  rw [hov]
  go_wp2_with fail
  refine (must_yes _).mono ?_
  rintro e w7 ⟨rfl, rfl⟩
  have hi : (Tryz.prog.info? 31).map (·.size) = some cs.size := by rw [Hz5.out]; kernel_rfl
  go_wp2_with (first | (refine wpList_load_row rfl 31 _ rfl w.heap.size rfl 31 cs (0, 0) _ HX5.out Tryz.underlying31 rfl hi ?_) | (refine wpList_store_row rfl 31 _ _ rfl w.heap.size cs rfl rfl 31 cs HX5.out hi rfl H15.out ?_; rw [setRow_self _ _ _ _ _ HX5.out]))
  refine bodyPost_ret (results_cell_row rfl _ _ w.heap.size 31 cs (0, 0) _ rfl HX5.out Tryz.underlying31 rfl hi) rfl ?_
  exact ⟨cs, rfl, hCs, ⟨a, cp, hA5⟩, hK4.trans hK5, hR⟩

end Go.Proofs.YtjamgkcmpcnfpaaGreatDoor

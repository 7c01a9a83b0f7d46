/-
  Tag, at a line that begins with a tag and a blank.
-/
import Derived.Test.YtjamgkcmpcnfpaaGreatDoorNoop
namespace Go.Proofs.YtjamgkcmpcnfpaaGreatDoor
open Go.RowKit

set_option maxHeartbeats 1000000 in
set_option maxRecDepth 100000 in
theorem Tag1_any (g pb sb : Nat) (t z : ByteArray) (tag r : List UInt8) (rv kv : Value) (w : World) (hA : At g w t rv kv) (ht : t.data.toList = tag ++ 32 :: r) (hs : t.size ≤ 9223372036854775807) (hT : TagOk tag)
    (hp : w.cell? ⟨pb, 0, none⟩ = some (PP g)) (hb : w.heap[sb]? = some (.cells #[.string z] 9 (0, 0))) (hpg : pb ≠ g) (hsg : sb ≠ g) :
    Calls Tryz.prog 31 #[.pointer (some ⟨pb, 0, none⟩), .pointer (some ⟨sb, 0, none⟩)] w fun e w' => e = .returned (.tuple #[]) ∧ ∃ w1, w' = w1.setCell ⟨sb, 0, none⟩ (.string ⟨tag.toArray⟩) ∧ Kept g w w1 := by
  have hT' := tag_any g t tag (32 :: r) rv kv w hA ht hs hT.ne hT.all (show (!(atomOr [93] ((32 : UInt8).toNat : Int))) = true from by decide) hT.len hT.plus
  have HT := Lib.hid hT'; clear hT'
  have hplt := World.block_lt_of_cell? _ _ hp
  have hslt := (Array.getElem?_eq_some_iff.1 hb).1
  simp only at hplt
  have Hb := Lib.hid hb; clear hb
  have Hp := Lib.hid hp
  clear hA ht hs hT
  go_enter Tryz.func31, Tryz.ntmps31
  go_wp2_with fail
  refine HT.out.mono ?_
  rintro e w1 ⟨rfl, hA1, hK1⟩
  clear hp
  have hp1 := (hK1.cell (p := ⟨pb, 0, none⟩) hplt hpg).trans Hp.out
  have hb1 := (hK1.block sb hslt hsg).trans Hb.out
  have c1 := cell_of_block hb1
  have f1 := frozen_of_block hb1
  have h0 := hA1.c0
  have hemp : (⟨(32 :: r).toArray⟩ : ByteArray).toList.isEmpty = false := nonempty_list _ (by simp)
  go_wp2_with fail
  refine (must_yes _).mono ?_
  rintro e w2 ⟨rfl, rfl⟩
  go_wp2_with fail
  first
  | (go_end0; exact ⟨rfl, w1, rfl, hK1⟩)
  | exact ⟨rfl, _, results_none rfl _ _ _, rfl, w1, rfl, hK1⟩
  | (refine bodyPost_ret (results_none rfl _ _ _) rfl ?_; exact ⟨rfl, w1, rfl, hK1⟩)

set_option maxHeartbeats 4000000 in
set_option maxRecDepth 100000 in
theorem Tag_any (b n c : Nat) (p0 : ByteArray) (tag r : List UInt8) (w : World) (hn : 0 < n) (hnc : n ≤ c) (hcm : c ≤ 1000) (hc : w.cell? ⟨b, 0, none⟩ = some (.string p0)) (ht : p0.data.toList = tag ++ 32 :: r) (hs : p0.size ≤ 9223372036854775807) (hT : TagOk tag) :
    Calls Tryz.prog 17 #[.slice (some ⟨b, 0, none⟩) n c] w fun e w' => e = .returned (.string ⟨tag.toArray⟩) ∧ Below w.heap.size w w' := by
  have hb0 : b < w.heap.size := World.block_lt_of_cell? _ _ hc
  have hc0 := (World.cell?_alloc_lt w (.cells #[.string ⟨#[42]⟩] 9) ⟨b, 0, none⟩ hb0).trans hc
  have hmf : ∀ (fn : Fn) (first cap : Array Value) (w : World), (Instr.makeFunc fn first cap).run Tryz.prog w = .ok (.func fn first cap) w := fun _ _ _ _ => rfl
  have key : ∀ W : World, W = ((w.alloc (.cells #[.string ⟨#[42]⟩] 9)).alloc (.cells #[.string p0, .slice none 0 0, .slice none 0 0] 51)).alloc (.cells #[.pointer (some ⟨w.heap.size + 1, 0, none⟩)] 49) →
      Calls Tryz.prog 22 #[.func (.func 31) #[] #[.pointer (some ⟨w.heap.size + 2, 0, none⟩), .pointer (some ⟨w.heap.size, 0, none⟩)]] W fun e w' => e = .returned (.bool true) ∧ w'.cell? ⟨w.heap.size, 0, none⟩ = some (.string ⟨tag.toArray⟩) ∧ Below w.heap.size w w' := by
    intro W hW
    have hsz : W.heap.size = w.heap.size + 3 := by rw [hW]; simp
    have hS : W.heap[w.heap.size]? = some (.cells #[.string ⟨#[42]⟩] 9 (0, 0)) := by
      rw [hW, heap_alloc_lt _ _ _ (by simp only [World.size_alloc]; omega), heap_alloc_lt _ _ _ (by simp only [World.size_alloc]; omega), heap_alloc_at _ _ _ rfl]
    have hP : W.heap[w.heap.size + 2]? = some (.cells #[.pointer (some ⟨w.heap.size + 1, 0, none⟩)] 49 (0, 0)) := by
      rw [hW, heap_alloc_at _ _ _ (by simp only [World.size_alloc])]
    have hG : W.heap[w.heap.size + 1]? = some (.cells #[.string p0, .slice none 0 0, .slice none 0 0] 51 (0, 0)) := by
      rw [hW, heap_alloc_lt _ _ _ (by simp only [World.size_alloc]; omega), heap_alloc_at _ _ _ (by simp only [World.size_alloc])]
    have hB : Below w.heap.size w W := by
      rw [hW]; exact (((Below.refl _ w).alloc (by omega) _).alloc (by simp only [World.size_alloc]; omega) _).alloc (by simp only [World.size_alloc]; omega) _
    clear hW
    refine try_yes 31 _ (enters_of Tryz.func31 (by kernel_rfl) rfl) W _ ((Tag1_any (w.heap.size + 1) (w.heap.size + 2) w.heap.size p0 ⟨#[42]⟩ tag r _ _ (W.alloc (.cells #[.bool false] 4)) ((At.of_block hG).alloc _) ht hs hT
      (cell_of_block ((heap_alloc_lt _ _ _ (by omega)).trans hP)) ((heap_alloc_lt _ _ _ (by omega)).trans hS) (by omega) (by omega)).mono ?_)
    rintro e w' ⟨rfl, w1, rfl, hK⟩
    have h3 : w1.heap[W.heap.size]? = some (.cells #[.bool false] 4 (0, 0)) := (hK.block _ (by simp) (by omega)).trans (heap_alloc_at _ _ _ rfl)
    have h4 : w1.heap[w.heap.size]? = some (.cells #[.string ⟨#[42]⟩] 9 (0, 0)) := (hK.block _ (by simp; omega) (by omega)).trans ((heap_alloc_lt _ _ _ (by omega)).trans hS)
    refine ⟨rfl, ?_, ?_, ?_⟩
    · rw [setCell_heap_loop (by simp only []; omega)]; exact h3
    · rw [World.cell?_setCell_other _ _ _ _ (by intro h; injection h with h; omega)]
      exact World.cell?_setCell_same _ _ _ (cell_of_block h4)
    · have hb1 : Below w.heap.size w w1 := hB.trans (((Below.refl _ W).alloc (by omega) _).trans (hK.below (by omega) (by simp; omega)))
      exact (hb1.setCell (by simp only []; omega) _).setCell (by simp only []; omega) _
  have Hkey := Lib.hid key; clear key
  clear hc ht hs hT
  have hn' : decide ((0 : Int) < (n : Int)) = true := by simp; omega
  go_enter Tryz.func17, Tryz.ntmps17
  go_wp2_with fail
  refine (Hkey.out _ rfl).mono ?_
  rintro e w1 ⟨rfl, h1, hB⟩
  go_wp2_with fail
  go_ret
  exact ⟨rfl, hB⟩

end Go.Proofs.YtjamgkcmpcnfpaaGreatDoor

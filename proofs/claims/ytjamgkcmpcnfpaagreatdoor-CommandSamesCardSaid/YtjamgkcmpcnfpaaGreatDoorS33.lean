/-
  The law's fixed fact holds.
-/
import Derived.Test.YtjamgkcmpcnfpaaGreatDoorS32
set_option linter.unusedVariables false
set_option linter.unusedSimpArgs false

namespace Go.Proofs.YtjamgkcmpcnfpaaGreatDoor
open Go.RowKit

theorem inbox_ok : BoxOk inboxB := by
  refine ⟨⟨⟨by decide, by decide, by decide, ?_, by decide⟩, ?_⟩, by decide, by decide, by decide⟩
  · intro j hj
    have : j = 0 ∨ j = 1 ∨ j = 2 ∨ j = 3 ∨ j = 4 := by simp [inboxB, ByteArray.size] at hj; omega
    rcases this with rfl | rfl | rfl | rfl | rfl <;> decide
  · intro j b h
    have := List.mem_of_getElem? h
    revert this
    simp [inboxB]
    rintro (rfl | rfl | rfl | rfl | rfl) <;> decide

theorem inbox_cl : boxCl inboxB = ⟨#[73, 78, 66, 79, 88]⟩ := by decide

def xB : ByteArray := ⟨#[120]⟩

theorem parse_app (B b : Nat) (w : World) (hE : Env B w) (hc : w.cell? ⟨b, 0, none⟩ = some (.string line2)) (hc1 : w.cell? ⟨b, 1, none⟩ = some (.string xB)) (hc2 : w.cell? ⟨b, 2, none⟩ = some (.string ⟨#[]⟩)) :
    Calls Tryz.prog 10 #[.slice (some ⟨b, 0, none⟩) 3 3] w fun e w' => e = .returned (.tuple #[.agg (cmdApp [98] ⟨#[73, 78, 66, 79, 88]⟩ xB), .int .i64 0]) ∧ Below w.heap.size w w' := by
  have h := parse_append B b line2 inboxB xB [98] [65, 80, 80, 69, 78, 68] w hE tag_b ⟨by decide, by decide, by decide, by decide, by decide⟩ inbox_ok (by decide) (by decide) (by decide) hc hc1 hc2
  rw [inbox_cl] at h
  exact h

/-- A new variable holds what was stored into it. -/
theorem new_row (w : World) (cs : Array Value) (z : Array Value) : ((w.alloc (.cells z 31)).setRow w.heap.size cs).heap[w.heap.size]? = some (.cells cs 31 (0, 0)) := setRow_heap _ _ _ _ _ _ (heap_alloc_at _ _ _ rfl)

theorem new_below (w : World) (cs : Array Value) (z : Array Value) : Below w.heap.size w ((w.alloc (.cells z 31)).setRow w.heap.size cs) :=
  ⟨rfl, rfl, rfl, by simp [World.setRow], fun k hk => by rw [setRow_other _ _ _ _ (by omega), heap_alloc_lt _ _ _ hk]⟩

/-- What is stored into a new variable; the world behind it is a letter. -/
theorem store_new {ops : Array Oper} {rest : List Oper} {o : Oper} {a : Act} {w : World} {Q : Exit → Act → World → Prop} (z cells : Array Value) (x y : Operand) (hgd : o.guard = none) (ho : o.op = .store 31 x y)
    (hx : a.eval x = .pointer (some ⟨w.heap.size, 0, none⟩)) (hy : a.eval y = .agg cells) (hi : (Tryz.prog.info? 31).map (·.size) = some cells.size) (hz : z.size = cells.size) (h1 : cells.all (·.oneCell') = true)
    (h : ∀ V : World, Below w.heap.size w V → V.heap[w.heap.size]? = some (.cells cells 31 (0, 0)) → V.heap.size = w.heap.size + 1 → wpList Tryz.prog ops Q rest (a.put o.dst undef) V) : wpList Tryz.prog ops Q (o :: rest) a (w.alloc (.cells z 31)) :=
  wpList_store_row hgd 31 x y ho w.heap.size cells hx hy 31 z (heap_alloc_at _ _ _ rfl) hi hz h1 (h _ (new_below w cells z) (new_row w cells z) (by simp))

theorem size_new (w : World) (cs : Array Value) (z : Array Value) : ((w.alloc (.cells z 31)).setRow w.heap.size cs).heap.size = w.heap.size + 1 := by simp

set_option maxHeartbeats 8000000 in
set_option maxRecDepth 100000 in
theorem alive_yes (B : Nat) (w : World) (hE : Env B w) : Calls Tryz.prog 8 #[] w fun e w' => e = .returned (.bool true) ∧ Below w.heap.size w w' := by
  have hiz : (Tryz.prog.info? 31).map (·.size) = some zeroCmd.size := by kernel_rfl
  have hi1 : ∀ A c, (Tryz.prog.info? 31).map (·.size) = some (cmd1 A c).size := fun _ _ => by rw [show (cmd1 _ _).size = 15 from rfl]; kernel_rfl
  have hi2 : (Tryz.prog.info? 31).map (·.size) = some (cmdApp [98] ⟨#[73, 78, 66, 79, 88]⟩ xB).size := by rw [show (cmdApp _ _ _).size = 15 from rfl]; kernel_rfl
  have P1 : Calls Tryz.prog 10 #[.slice (some ⟨w.heap.size, 0, none⟩) 1 1] (w.alloc (.cells #[.string line1] 9)) _ := parse_store B w.heap.size _ (hE.step ((Below.refl _ w).alloc hE.le _)) (cell_of_block (heap_alloc_at _ _ _ rfl))
  have HP1 := Lib.hid P1; clear P1
  have HE := Lib.hid hE; clear hE
  go_enter Tryz.func8, Tryz.ntmps8
  go_wp2_with fail
  refine HP1.out.mono ?_
  rintro e w1 ⟨A, c, rfl, hB1⟩
  have hB1' := ((Below.refl _ w).alloc (Nat.le_refl _) (.cells #[.string line1] 9)).trans (hB1.mono (by simp))
  clear HP1 hB1
  go_wp2_with (refine wpList_store_row rfl 31 _ _ rfl w1.heap.size (cmd1 A c) rfl rfl 31 zeroCmd (heap_alloc_at _ _ _ rfl) (hi1 A c) rfl (by simp [cmd1, Value.oneCell']) ?_)
  have hN1 : Below w.heap.size w ((w1.alloc (.cells zeroCmd 31)).setRow w1.heap.size (cmd1 A c)) := hB1'.trans ((new_below w1 (cmd1 A c) zeroCmd).mono hB1'.size)
  have hR1 := new_row w1 (cmd1 A c) zeroCmd
  have hS1 := size_new w1 (cmd1 A c) zeroCmd
  have hV : ∃ V1, V1 = ((w1.alloc (.cells zeroCmd 31)).setRow w1.heap.size (cmd1 A c)) := ⟨_, rfl⟩
  obtain ⟨V1, hV⟩ := hV
  rw [← hV] at hN1 hR1 hS1
  have P2 := parse_app B (w1.heap.size + 1) (V1.alloc (.cells #[.string line2, .string xB, .string ⟨#[]⟩] 9)) (HE.out.step ((hN1.alloc (by rw [hS1]; have := hB1'.size; omega) _).mono HE.out.le)) (cells_at (heap_alloc_at _ _ _ hS1.symm) rfl) (cells_at (heap_alloc_at _ _ _ hS1.symm) rfl) (cells_at (heap_alloc_at _ _ _ hS1.symm) rfl)
  have hx1 : w.heap.size ≤ w1.heap.size := hB1'.size
  have hR1' := Lib.hid ((heap_alloc_lt V1 (.cells #[.string line2, .string xB, .string ⟨#[]⟩] 9) w1.heap.size (by omega)).trans hR1)
  have hN1' := Lib.hid (hN1.alloc (o := .cells #[.string line2, .string xB, .string ⟨#[]⟩] 9) (by omega))
  have hS1' : (V1.alloc (.cells #[.string line2, .string xB, .string ⟨#[]⟩] 9)).heap.size = w1.heap.size + 2 := by simp [hS1]
  clear hN1 hR1 hS1
  subst hV
  refine P2.mono ?_
  clear P2
  rintro e w2 ⟨rfl, hB2⟩
  rw [hS1'] at hB2
  have hR2 := Lib.hid ((hB2.block w1.heap.size (by omega)).trans hR1'.out)
  have hN2 := hN1'.out.trans (hB2.mono (by omega))
  have hz2 := hB2.size
  rw [hS1'] at hz2
  clear hB2 hR1' hN1' hS1' hB1'
  go_wp2_with (refine wpList_store_row rfl 31 _ _ rfl w2.heap.size (cmdApp [98] ⟨#[73, 78, 66, 79, 88]⟩ xB) rfl rfl 31 zeroCmd (heap_alloc_at _ _ _ rfl) hi2 rfl (by simp [cmdApp, Value.oneCell']) ?_)
  have hN3 : Below w.heap.size w ((w2.alloc (.cells zeroCmd 31)).setRow w2.heap.size (cmdApp [98] ⟨#[73, 78, 66, 79, 88]⟩ xB)) := hN2.trans ((new_below w2 (cmdApp [98] ⟨#[73, 78, 66, 79, 88]⟩ xB) zeroCmd).mono hN2.size)
  have hR31 := ((new_below w2 (cmdApp [98] ⟨#[73, 78, 66, 79, 88]⟩ xB) zeroCmd).block w1.heap.size (by omega)).trans hR2.out
  have hR32 := new_row w2 (cmdApp [98] ⟨#[73, 78, 66, 79, 88]⟩ xB) zeroCmd
  have hS3 := size_new w2 (cmdApp [98] ⟨#[73, 78, 66, 79, 88]⟩ xB) zeroCmd
  have hV : ∃ V1, V1 = ((w2.alloc (.cells zeroCmd 31)).setRow w2.heap.size (cmdApp [98] ⟨#[73, 78, 66, 79, 88]⟩ xB)) := ⟨_, rfl⟩
  obtain ⟨V1, hV⟩ := hV
  rw [← hV] at hN3 hR31 hR32 hS3
  have P3 := parse_noop B (w2.heap.size + 1) (V1.alloc (.cells #[.string line3] 9)) (HE.out.step ((hN3.alloc (by omega) _).mono HE.out.le)) (cells_at (heap_alloc_at _ _ _ hS3.symm) rfl)
  have hR31' := Lib.hid ((heap_alloc_lt V1 (.cells #[.string line3] 9) w1.heap.size (by omega)).trans hR31)
  have hR32' := Lib.hid ((heap_alloc_lt V1 (.cells #[.string line3] 9) w2.heap.size (by omega)).trans hR32)
  have hN3' := Lib.hid (hN3.alloc (o := .cells #[.string line3] 9) (by omega))
  have hS3' : (V1.alloc (.cells #[.string line3] 9)).heap.size = w2.heap.size + 2 := by simp [hS3]
  clear hN3 hR31 hR32 hS3 hR2 hN2
  subst hV
  refine P3.mono ?_
  clear P3
  rintro e w3 ⟨rfl, hB3⟩
  rw [hS3'] at hB3
  have hR41 := Lib.hid ((hB3.block w1.heap.size (by omega)).trans hR31'.out)
  have hR42 := Lib.hid ((hB3.block w2.heap.size (by omega)).trans hR32'.out)
  have hN4 := Lib.hid (hN3'.out.trans (hB3.mono (by omega)))
  have hz3 := hB3.size
  rw [hS3'] at hz3
  clear hB3 hR31' hR32' hN3' hS3'
  go_wp2_with (
    refine store_new zeroCmd zeroCmd _ _ rfl rfl rfl rfl hiz rfl (by simp [zeroCmd, Value.oneCell']) ?_
    intro V3 hVB hVR hVS
    have k1 := (hVB.block w1.heap.size (by omega)).trans hR41.out
    have k2 := (hVB.block w2.heap.size (by omega)).trans hR42.out
    have a1 := cells_at (j := 1) (v := .int .i64 21) k1 rfl
    have a2 := cells_at (j := 2) (v := .bool true) k1 rfl
    have a5 := cells_at (j := 5) (v := .slice A 1 c) k1 rfl
    have a6 := cells_at (j := 6) (v := .int .i64 1) k1 rfl
    have a7 := cells_at (j := 7) (v := .bool true) k1 rfl
    have a8 := cells_at (j := 8) (v := .int .i64 1) k1 rfl
    have b3 := cells_at (j := 3) (v := .string ⟨#[73, 78, 66, 79, 88]⟩) k2 rfl
    have b9 := cells_at (j := 9) (v := .int .i64 (-1)) k2 rfl
    have b11 := cells_at (j := 11) (v := .string ⟨#[120]⟩) k2 rfl
    have hN5 := Lib.hid (hN4.out.trans (hVB.mono (by have := hN4.out.size; omega)))
    clear k1 k2 hVR
    have HVB := Lib.hid hVB
    clear hVB hVS)
  have P4 := Tag_any V3.heap.size 1 1 line3 [98] [78, 79, 79, 80, 32] (V3.alloc (.cells #[.string line3] 9)) (by omega) (by omega) (by omega) (cells_at (heap_alloc_at _ _ _ rfl) rfl) (by decide) (by decide) tag_b
  refine P4.mono ?_
  clear P4
  rintro e w4 ⟨rfl, hB4⟩
  have hN6 : Below w.heap.size w w4 := (hN5.out.alloc hN5.out.size _).trans (hB4.mono (by have := hN5.out.size; simp; omega))
  go_wp2_with fail
  go_ret
  exact ⟨rfl, hN6⟩

end Go.Proofs.YtjamgkcmpcnfpaaGreatDoor

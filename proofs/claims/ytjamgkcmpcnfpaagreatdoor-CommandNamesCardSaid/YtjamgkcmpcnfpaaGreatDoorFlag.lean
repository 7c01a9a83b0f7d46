/-
  flag.One at the flag that the law's fixed fact has.
-/
import Derived.Test.YtjamgkcmpcnfpaaGreatDoorForms
namespace Go.Proofs.YtjamgkcmpcnfpaaGreatDoor
open Go.RowKit

theorem named0 (w : World) : (Instr.index 165 (.agg namedC) (.int .i64 0)).run Tryz.prog w = .ok (.agg #[.string ⟨#[92, 65, 110, 115, 119, 101, 114, 101, 100]⟩, .int .i64 2]) w := by kernel_rfl
theorem named1 (w : World) : (Instr.index 165 (.agg namedC) (.int .i64 1)).run Tryz.prog w = .ok (.agg #[.string ⟨#[92, 70, 108, 97, 103, 103, 101, 100]⟩, .int .i64 4]) w := by kernel_rfl
theorem named2 (w : World) : (Instr.index 165 (.agg namedC) (.int .i64 2)).run Tryz.prog w = .ok (.agg #[.string ⟨#[92, 68, 101, 108, 101, 116, 101, 100]⟩, .int .i64 8]) w := by kernel_rfl
theorem named3 (w : World) : (Instr.index 165 (.agg namedC) (.int .i64 3)).run Tryz.prog w = .ok (.agg #[.string ⟨#[92, 83, 101, 101, 110]⟩, .int .i64 1]) w := by kernel_rfl

set_option maxHeartbeats 4000000 in
set_option maxRecDepth 100000 in
theorem One_seen (t : TypeId) (fr : Nat × Nat) (w : World) (h9 : w.heap[9]? = some (.cells namedC t fr)) :
    Calls Tryz.prog 160 #[.string ⟨#[92, 83, 101, 101, 110]⟩] w fun e w' => e = .returned (.tuple #[.int .i64 1, .int .i64 0]) ∧ Below w.heap.size w w' := by
  have hi : (Tryz.prog.info? 165).map (·.size) = some namedC.size := by kernel_rfl
  have H9 := Lib.hid h9; clear h9
  have hEF := fun w1 => Tryz.strings_EqualFold ⟨#[92, 83, 101, 101, 110]⟩ ⟨#[92, 83, 101, 101, 110]⟩ w1 (by decide) (by intro j b h; have := List.mem_of_getElem? h; revert this; simp; rintro (rfl | rfl | rfl | rfl) <;> decide) (by intro j b h; have := List.mem_of_getElem? h; revert this; simp; rintro (rfl | rfl | rfl | rfl) <;> decide)
  have HEF := Lib.hid hEF; clear hEF
  have i0 := named0
  have i1 := named1
  have i2 := named2
  have i3 := named3
  go_enter Tryz.func160, Tryz.ntmps160
  go_wp2_with (refine wpList_load_row rfl 165 _ rfl 9 rfl t namedC fr _ H9.out Tryz.underlying165 rfl hi ?_)
  generalize namedC = N at *
  go_loopw [7] (fun i wr => ∃ k : Nat, k ≤ 3 ∧ i = .int .i64 k ∧ Below w.heap.size w wr) (fun i _ => 4 - (intOf i).toNat)
  case atStart => exact ⟨0, by omega, rfl, Below.refl _ _⟩
  case round =>
    obtain ⟨k, hk, rfl, hB⟩ := hrel
    have hk' : k = 0 ∨ k = 1 ∨ k = 2 ∨ k = 3 := by omega
    rcases hk' with rfl | rfl | rfl | rfl
    all_goals go_wp2_with fail
    · exact ⟨⟨1, by omega, rfl, hB.alloc hB.size _⟩, by decide⟩
    · exact ⟨⟨2, by omega, rfl, hB.alloc hB.size _⟩, by decide⟩
    · exact ⟨⟨3, by omega, rfl, hB.alloc hB.size _⟩, by decide⟩
    · refine (HEF.out _).mono ?_
      rintro e w1 ⟨rfl, rfl⟩
      have hef : Lib.equalFold [92, 83, 101, 101, 110] [92, 83, 101, 101, 110] = true := by decide
      rw [hef]
      go_wp2_with fail
      first
      | (go_ret2; exact ⟨rfl, hB.alloc hB.size _⟩)
      | trace_state

end Go.Proofs.YtjamgkcmpcnfpaaGreatDoor

/-
  'try': what it reads goes on to its end; or ends in a panic of 'must'.
-/
import Derived.Test.YtjamgkcmpcnfpaaGreatDoorCommand
import Derived.Defers
import Derived.Recover
import Derived.Laws.Pointers
namespace Go.Proofs.YtjamgkcmpcnfpaaGreatDoor
open Go.RowKit

set_option maxHeartbeats 1000000 in
theorem try1_idle (p : Addr) (w : World) :
    CallsD Tryz.prog 49 #[.pointer (some p)] .returning w fun e u' w' => e = .returned (.tuple #[]) ∧ u' = .returning ∧ w' = w := by
  refine callsD_of_wpS Tryz.func49 rfl fun c₀ cs hu => ?_
  apply wpS_seq
  apply wpS_region
  simp [wpOpsS, go_sem, recoverD, hu, Tryz.ntmps49, Exit.thenS]
  refine wpS_of_wp ?_
  go_wp2
  cases c₀
  simp_all [bodyPostS, results, Tryz.results49]

theorem assert_wrong (w : World) : (Instr.typeAssert (.iface 83 (.agg #[])) 20 83 true).run Tryz.prog w = .ok (.tuple #[.agg #[], .bool true]) w := by kernel_rfl

set_option maxHeartbeats 1000000 in
set_option maxRecDepth 100000 in
theorem try1_wrong (p : Addr) (x : Bool) (w : World) (hc : w.cell? p = some (.bool x)) (hz : w.frozen? p = false) :
    CallsD Tryz.prog 49 #[.pointer (some p)] (.panicking [{ v := .iface 83 (.agg #[]), recovered := false }]) w fun e u' w' =>
      e = .returned (.tuple #[]) ∧ u' = .panicking [{ v := .iface 83 (.agg #[]), recovered := true }] ∧ w' = (w.alloc (.cells #[] 83)).setCell p (.bool false) := by
  have hlt := World.block_lt_of_cell? _ _ hc
  have hc1 : (w.alloc (.cells #[] 83)).cell? p = some (.bool x) := (World.cell?_alloc_lt _ _ _ hlt).trans hc
  have hz1 : (w.alloc (.cells #[] 83)).frozen? p = false := (World.frozen?_alloc_old _ _ _ (by omega)).trans hz
  have hta := assert_wrong
  refine callsD_of_wpS Tryz.func49 rfl fun c₀ cs hu => ?_
  apply wpS_seq
  apply wpS_region
  simp [wpOpsS, go_sem, recoverD, hu, Tryz.ntmps49, Exit.thenS]
  refine wpS_of_wp ?_
  go_wp2
  cases c₀
  simp_all [bodyPostS, results, Tryz.results49]

set_option maxHeartbeats 1000000 in
set_option maxRecDepth 100000 in
/-- What is read goes on to its end. -/
theorem try_yes (f : FuncId) (cap : Array Value) (he : ∀ args w, (callFunc f args).run Tryz.prog w = .ok (.enter f args) w) (w : World) (R : World → Prop)
    (hr : Calls Tryz.prog f cap (w.alloc (.cells #[.bool false] 4)) fun e w' => e = .returned (.tuple #[]) ∧ w'.heap[w.heap.size]? = some (.cells #[.bool false] 4 (0, 0)) ∧ R (w'.setCell ⟨w.heap.size, 0, none⟩ (.bool true))) :
    Calls Tryz.prog 22 #[.func (.func f) #[] cap] w fun e w' => e = .returned (.bool true) ∧ R w' := by
  have hmf : ∀ (fn : Fn) (first cap : Array Value) (w : World), (Instr.makeFunc fn first cap).run Tryz.prog w = .ok (.func fn first cap) w := fun _ _ _ _ => rfl
  have Hr := Lib.hid hr; clear hr
  go_enter_defers Tryz.func22, Tryz.ntmps22
  go_wp2_with fail
  refine Hr.out.mono ?_
  rintro e w1 ⟨rfl, hb, hR⟩
  have c0 := cell_of_block hb
  have f0 := frozen_of_block hb
  have hb2 := heap_setCell_same w1 w.heap.size 0 _ 4 (.bool true) hb
  have Hb2 := Lib.hid (cell_of_block (v := .bool true) hb2)
  clear hb hb2
  go_wp2_with fail
  refine leaves_cons (f := 49) (args := #[.pointer (some ⟨w.heap.size, 0, none⟩)]) (by simp) (by simp [go_sem]) ?_
  refine (try1_idle ⟨w.heap.size, 0, none⟩ _).mono ?_
  rintro e u' w'' ⟨rfl, rfl, rfl⟩
  have hb3 := Hb2.out
  simp [Leaves, settle, results, Tryz.results22, go_sem, hb3]
  exact hR

set_option maxHeartbeats 1000000 in
set_option maxRecDepth 100000 in
/-- What is read ends in a panic of 'must'. -/
theorem try_no (f : FuncId) (cap : Array Value) (he : ∀ args w, (callFunc f args).run Tryz.prog w = .ok (.enter f args) w) (w : World) (R : World → Prop)
    (hr : Calls Tryz.prog f cap (w.alloc (.cells #[.bool false] 4)) fun e w' => e = Wrong ∧ w'.heap[w.heap.size]? = some (.cells #[.bool false] 4 (0, 0)) ∧ R ((w'.alloc (.cells #[] 83)).setCell ⟨w.heap.size, 0, none⟩ (.bool false))) :
    Calls Tryz.prog 22 #[.func (.func f) #[] cap] w fun e w' => e = .returned (.bool false) ∧ R w' := by
  have hmf : ∀ (fn : Fn) (first cap : Array Value) (w : World), (Instr.makeFunc fn first cap).run Tryz.prog w = .ok (.func fn first cap) w := fun _ _ _ _ => rfl
  have Hr := Lib.hid hr; clear hr
  go_enter_defers Tryz.func22, Tryz.ntmps22
  go_wp2_with fail
  refine Hr.out.mono ?_
  rintro e w1 ⟨rfl, hb, hR⟩
  have c0 := cell_of_block hb
  have f0 := frozen_of_block hb
  have hlt := World.block_lt_of_cell? _ _ c0
  have hb2 : (w1.alloc (.cells #[] 83)).heap[w.heap.size]? = some (.cells #[.bool false] 4 (0, 0)) := (heap_alloc_lt _ _ _ hlt).trans hb
  have Hb2 := Lib.hid (cell_of_block (v := .bool false) (heap_setCell_same _ w.heap.size 0 _ 4 (.bool false) hb2))
  clear hb hb2
  go_wp2_with fail
  refine leaves_cons (f := 49) (args := #[.pointer (some ⟨w.heap.size, 0, none⟩)]) (by simp) (by simp [go_sem]) ?_
  refine (try1_wrong ⟨w.heap.size, 0, none⟩ false _ c0 f0).mono ?_
  rintro e u' w'' ⟨rfl, rfl, rfl⟩
  have hb3 := Hb2.out
  simp [Leaves, settle, results, Tryz.results22, go_sem, hb3]
  exact hR

end Go.Proofs.YtjamgkcmpcnfpaaGreatDoor

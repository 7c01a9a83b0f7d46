/-
  The law's walk at a nil slice: its text is refused, and the law says yes.
-/
import Derived.Test.YtjamgkcmpcnfpaaGreatDoorCarry
namespace Go.Proofs.YtjamgkcmpcnfpaaGreatDoor
open Go.RowKit

set_option maxHeartbeats 1000000 in
theorem Right09_nil (w : World) : Calls Tryz.prog 29 #[.slice none 0 0] w fun e w' => e = .returned (.bool false) ∧ w = w' := by
  go_enter Tryz.func29, Tryz.ntmps29
  go_wp2_with fail
  go_loop [3] (fun i => i = .int .i64 0) (fun _ => 0)
  case atStart => rfl
  case round =>
    obtain rfl := hrel
    go_wp2_with fail
    go_ret
    exact ⟨rfl, rfl⟩

set_option maxHeartbeats 1000000 in
theorem Print_nil (w : World) : Calls Tryz.prog 13 #[.slice none 0 0] w fun e w' => e = .returned (.tuple #[.string ⟨#[]⟩, .int .i64 1]) ∧ w = w' := by
  have HR := Lib.hid (Right09_nil w)
  go_enter Tryz.func13, Tryz.ntmps13
  go_wp2_with fail
  refine HR.out.mono ?_
  rintro e w1 ⟨rfl, rfl⟩
  go_wp2_with fail
  go_ret2
  exact ⟨rfl, rfl⟩

set_option maxHeartbeats 8000000 in
set_option maxRecDepth 100000 in
theorem names_nil (B : Nat) (tag box : ByteArray) (w : World) (hE : Env B w) (hb : box.size ≤ 9223372036854775806) :
    Calls Tryz.prog 4 #[.string tag, .string box, .slice none 0 0] w fun e w' => e = .returned (.bool true) ∧ Below w.heap.size w w' := by
  have HA := Lib.hid (alive_yes B w hE)
  clear hE
  go_enter Tryz.func4, Tryz.ntmps4
  go_wp2_with fail
  refine HA.out.mono ?_
  rintro e w1 ⟨rfl, hB1⟩
  clear HA
  go_wp2_with fail
  refine (Clean10_any box w1 hb).mono ?_
  rintro e w2 ⟨t, e1, rfl, rfl, hcl⟩
  clear hcl
  go_wp2_with fail
  refine (Print_nil w1).mono ?_
  rintro e w3 ⟨rfl, rfl⟩
  by_cases he1 : e1 = 0
  · subst he1
    go_wp2_with fail
    go_ret
    exact ⟨rfl, hB1⟩
  · have h2 : (e1 != 0) = true := by rw [bne_iff_ne]; exact he1
    go_wp2_with fail
    go_ret
    exact ⟨rfl, hB1⟩

end Go.Proofs.YtjamgkcmpcnfpaaGreatDoor

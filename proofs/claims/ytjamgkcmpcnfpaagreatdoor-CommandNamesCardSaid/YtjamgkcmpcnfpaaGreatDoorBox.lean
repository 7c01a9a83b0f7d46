/-
  The parser's 'box', at names that are taken: an atom, quoted, a literal.
-/
import Derived.Test.YtjamgkcmpcnfpaaGreatDoorClean
import Derived.Test.YtjamgkcmpcnfpaaGreatDoorLiteral
namespace Go.Proofs.YtjamgkcmpcnfpaaGreatDoor
open Go.RowKit

/-- A name that is taken. -/
structure NameOk (s : ByteArray) : Prop where
  formed : Formed s
  ascii : ∀ (j : Nat) (b : UInt8), s.data.toList[j]? = some b → b.toNat < 128

set_option maxHeartbeats 1000000 in
theorem box_of (g : Nat) (s : ByteArray) (m : Int) (w : World) (Q : World → Prop) (hS : Calls Tryz.prog 82 #[PP g, .string ⟨#[]⟩] w fun e w' => e = .returned (.string s) ∧ Q w') (hQ : ∀ w', Q w' → Kept g w w')
    (hM : w.cell? ⟨4, 0, none⟩ = some (.int .i64 m)) (hg : 4 ≠ g) (h : NameOk s) :
    Calls Tryz.prog 81 #[PP g] w fun e w' => e = .returned (.string ⟨(cleanL s.data.toList).toArray⟩) ∧ ∃ w1, Q w1 ∧ Below w1.heap.size w1 w' := by
  have h4 : 4 < w.heap.size := World.block_lt_of_cell? _ _ hM
  have hC := fun (w1 : World) (hk : Kept g w w1) => Clean_yes s m w1 ((hk.cell (p := ⟨4, 0, none⟩) h4 hg).trans hM) (Nat.lt_of_lt_of_le h4 hk.size) h.formed h.ascii
  have HS := Lib.hid hS; clear hS
  have HC := Lib.hid hC; clear hC
  have HQ := Lib.hid hQ; clear hQ
  clear hM h
  go_enter Tryz.func81, Tryz.ntmps81
  go_wp2_with fail
  refine HS.out.mono ?_
  rintro e w1 ⟨rfl, hq⟩
  go_wp2_with fail
  refine (HC.out w1 (HQ.out w1 hq)).mono ?_
  rintro e w2 ⟨rfl, hB⟩
  go_wp2_with fail
  refine (must_yes _).mono ?_
  rintro e w3 ⟨rfl, rfl⟩
  go_wp2_with fail
  go_ret
  exact ⟨rfl, w1, hq, hB⟩

end Go.Proofs.YtjamgkcmpcnfpaaGreatDoor

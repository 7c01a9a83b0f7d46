/-
  uids.number, at a star and at a number.
-/
import Derived.Test.YtjamgkcmpcnfpaaGreatDoorSmall
import Derived.Deep.QuietTactic
import Derived.BigQuiet
namespace Go.Proofs.YtjamgkcmpcnfpaaGreatDoor
open Go.RowKit

set_option maxHeartbeats 1000000 in
theorem number_star (w : World) :
    Calls Tryz.prog 140 #[.string ⟨#[42]⟩] w fun e w' => e = .returned (.tuple #[.int .i64 0, .bool true]) ∧ Below w.heap.size w w' := by
  go_enter Tryz.func140, Tryz.ntmps140
  go_wp2_with fail
  go_ret2
  exact ⟨rfl, Below.refl _ _⟩

set_option maxHeartbeats 2000000 in
set_option maxRecDepth 100000 in
theorem number_dec (s : ByteArray) (u : Nat) (w : World) (hs : s.size ≤ 2000) (hu : Lib.parseUintB 32 s.data.toList = .ok u) (hpos : 0 < u) (hlt : u < 4294967296) (hne : 0 < s.size)
    (h0 : byteAt s 0 ≠ 48) (h1 : byteAt s 0 ≠ 43) (hstar : s.toList ≠ [42]) :
    Calls Tryz.prog 140 #[.string s] w fun e w' => e = .returned (.tuple #[.int .i64 u, .bool true]) ∧ Below w.heap.size w w' := by
  have hP := Tryz.strconv_ParseUint_10_at32_ok s (by omega) u hu w
  have HP := Lib.hid hP; clear hP
  have hb := byteAt_of s 0 hne
  rw [hb] at h0 h1
  have t0 : (((s[0]'hne).toNat : Int) != 48) = true := by simpa [bne_iff_ne] using h0
  have t1 : (((s[0]'hne).toNat : Int) != 43) = true := by simpa [bne_iff_ne] using h1
  have t2 : decide ((0 : Int) < (u : Int)) = true := by simp; omega
  have t3 : (s.toList == [42]) = false := by simpa using hstar
  clear hu h0 h1 hb hstar
  go_enter Tryz.func140, Tryz.ntmps140
  go_wp2_with fail
  refine HP.out.mono ?_
  rintro e w1 ⟨rfl, hw⟩
  have hB : Below w.heap.size w w1 := by
    rcases hw with rfl | rfl
    · exact Below.refl _ _
    · exact Lib.bytesWorld_below _ _ _
  clear hw
  go_wp2_with fail
  have hcv : IntKind.i64.wrap (u : Int) = u := by rw [IntKind.wrap_i64]; omega
  go_quiet (fail)
  go_wp2_with fail
  go_ret2
  exact ⟨rfl, below_drewN hB _⟩

end Go.Proofs.YtjamgkcmpcnfpaaGreatDoor

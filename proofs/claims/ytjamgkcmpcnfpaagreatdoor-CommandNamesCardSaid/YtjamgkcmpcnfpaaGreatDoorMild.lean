/-
  The law's 'word' and 'mild'.
-/
import Derived.Test.YtjamgkcmpcnfpaaGreatDoorForms
import Derived.BigQuiet
namespace Go.Proofs.YtjamgkcmpcnfpaaGreatDoor
open Go.RowKit

/-- A Boolean is returned; where it is true, something holds; the world stands. -/
def Tells (Q : Prop) (w : World) (e : Ending) (w' : World) : Prop := ∃ r, e = .returned (.bool r) ∧ w = w' ∧ (r = true → Q)

theorem Tells.no {Q : Prop} {w : World} : Tells Q w (.returned (.bool false)) w := ⟨false, rfl, rfl, fun h => by cases h⟩
theorem Tells.yes {Q : Prop} {w : World} (h : Q) : Tells Q w (.returned (.bool true)) w := ⟨true, rfl, rfl, fun _ => h⟩

set_option maxHeartbeats 1000000 in
theorem mild_any (s : ByteArray) (w : World) (hs : s.size ≤ 9223372036854775806) :
    Calls Tryz.prog 15 #[.string s] w (Tells (∀ j, j < s.size → byteAt s j ≠ 93) w) := by
  go_enter Tryz.func15, Tryz.ntmps15
  go_wp2_with fail
  go_loop [3] (fun i => ∃ k : Nat, k ≤ s.size ∧ i = .int .i64 k ∧ Hid (∀ j, j < k → byteAt s j ≠ 93)) (fun i => s.size - (intOf i).toNat)
  case atStart => exact ⟨0, by omega, rfl, Lib.hid fun j hj => by omega⟩
  case round =>
    obtain ⟨k, hk, rfl, Hr⟩ := hrel
    by_cases hlt : k < s.size
    · by_cases hc : byteAt s k = 93
      · have hc' : ((s[k].toNat : Int) == 93) = true := by rw [← byteAt_of s k hlt]; simpa using hc
        go_wp2_with fail
        go_ret
        exact Tells.no
      · have hc' : ((s[k].toNat : Int) == 93) = false := by rw [← byteAt_of s k hlt]; simpa using hc
        have Hr2 : Hid (∀ j, j < k + 1 → byteAt s j ≠ 93) := Lib.hid fun j hj => if e : j = k then e ▸ hc else Hr.out j (by omega)
        clear hc
        go_wp2_with fail
        go_round
        case rel => exact ⟨k + 1, by omega, by go_num, Hr2⟩
        case measure => simp [intOf]; omega
    · go_wp2_with fail
      go_ret
      exact Tells.yes fun j hj => Hr.out j (by omega)

/-- A letter or a digit. -/
def wordB (c : Int) : Bool := (decide (97 ≤ c) && decide (c ≤ 122)) || (decide (65 ≤ c) && decide (c ≤ 90)) || (decide (48 ≤ c) && decide (c ≤ 57))

set_option maxRecDepth 100000 in
theorem or32_all : ∀ n, n < 256 → (decide (97 ≤ bits BinOp.or IntKind.u8 ((n : Nat) : Int) 32) && decide (bits BinOp.or IntKind.u8 ((n : Nat) : Int) 32 ≤ 122)) = true → wordB (n : Int) = true := by decide

theorem or32 (b : UInt8) (h1 : 97 ≤ bits BinOp.or IntKind.u8 (b.toNat : Int) 32) (h2 : bits BinOp.or IntKind.u8 (b.toNat : Int) 32 ≤ 122) : wordB (b.toNat : Int) = true :=
  or32_all b.toNat b.toNat_lt (by simp [h1, h2])

set_option maxHeartbeats 4000000 in
theorem word_any (s : ByteArray) (w : World) (hs : s.size ≤ 9223372036854775806) :
    Calls Tryz.prog 14 #[.string s] w (Tells (1 ≤ s.size ∧ s.size ≤ 40 ∧ ∀ j, j < s.size → wordB (byteAt s j) = true) w) := by
  go_enter Tryz.func14, Tryz.ntmps14
  go_wp2_with fail
  go_loop [3] (fun i => ∃ k : Nat, k ≤ s.size ∧ k ≤ 41 ∧ i = .int .i64 k ∧ Hid (∀ j, j < k → wordB (byteAt s j) = true)) (fun i => s.size - (intOf i).toNat)
  case atStart => exact ⟨0, by omega, by omega, rfl, Lib.hid fun j hj => by omega⟩
  case round =>
    obtain ⟨k, hk, hk41, rfl, Hr⟩ := hrel
    by_cases hlt : k < s.size
    · by_cases h41 : k < 41
      · have Hkey : ((97 ≤ bits BinOp.or IntKind.u8 (s[k].toNat : Int) 32 ∧ bits BinOp.or IntKind.u8 (s[k].toNat : Int) 32 ≤ 122) ∨ (48 ≤ (s[k].toNat : Int) ∧ (s[k].toNat : Int) ≤ 57)) → Hid (∀ j, j < k + 1 → wordB (byteAt s j) = true) := by
          intro h
          refine Lib.hid fun j hj => ?_
          by_cases e : j = k
          · subst e
            rw [byteAt_of s j hlt]
            rcases h with ⟨a, b⟩ | ⟨a, b⟩
            · exact or32 _ a b
            · simp [wordB, a, b]
          · exact Hr.out j (by omega)
        have HK := Lib.hid Hkey; clear Hkey
        go_wp2_with fail
        all_goals
          first
          | (go_ret; exact Tells.no)
          | exact ⟨⟨k + 1, by omega, by omega, by go_num, HK.out (by omega)⟩, by simp [intOf]; omega⟩
      · have h1 : decide ((1 : Int) ≤ (s.size : Int)) = true := by simp; omega
        have h2 : decide ((s.size : Int) ≤ 40) = false := by simp; omega
        go_wp2_with fail
        go_ret
        exact Tells.no
    · have e : k = s.size := by omega
      subst e
      by_cases h1 : 1 ≤ s.size
      · by_cases h2 : s.size ≤ 40
        · have h1' : decide ((1 : Int) ≤ (s.size : Int)) = true := by simp; omega
          have h2' : decide ((s.size : Int) ≤ 40) = true := by simp; omega
          go_wp2_with fail
          go_ret
          first | exact Tells.yes ⟨h1, h2, Hr.out⟩ | exact Tells.yes Hr.out
        · have h1' : decide ((1 : Int) ≤ (s.size : Int)) = true := by simp; omega
          have h2' : decide ((s.size : Int) ≤ 40) = false := by simp; omega
          go_wp2_with fail
          go_ret
          exact Tells.no
      · have h1' : decide ((1 : Int) ≤ (s.size : Int)) = false := by simp; omega
        go_wp2_with fail
        go_ret
        exact Tells.no

end Go.Proofs.YtjamgkcmpcnfpaaGreatDoor

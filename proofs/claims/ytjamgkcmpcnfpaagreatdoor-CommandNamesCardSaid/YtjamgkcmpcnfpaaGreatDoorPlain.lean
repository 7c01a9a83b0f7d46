/-
  The document's 'plain' and 'formed' of names.
-/
import Derived.Test.YtjamgkcmpcnfpaaGreatDoorMild
namespace Go.Proofs.YtjamgkcmpcnfpaaGreatDoor
open Go.RowKit

/-- May a byte be in a name? -/
def plainB (c : Int) : Bool := decide (32 < c) && decide (c ≤ 126) && (c != 40) && (c != 41) && (c != 123) && (c != 37) && (c != 42) && (c != 34) && (c != 92)

set_option maxHeartbeats 4000000 in
theorem plain_any (c : Int) (w : World) : Calls Tryz.prog 55 #[.int .u8 c] w fun e w' => e = .returned (.bool (plainB c)) ∧ w = w' := by
  unfold plainB
  by_cases h1 : 32 < c
  · by_cases h2 : c ≤ 126
    · by_cases h3 : c = 40
      · subst h3
        go_enter Tryz.func55, Tryz.ntmps55
        go_wp2_with fail
        go_ret
        exact ⟨rfl, rfl⟩
      · by_cases h4 : c = 41
        · subst h4
          go_enter Tryz.func55, Tryz.ntmps55
          go_wp2_with fail
          go_ret
          exact ⟨rfl, rfl⟩
        · by_cases h5 : c = 123
          · subst h5
            go_enter Tryz.func55, Tryz.ntmps55
            go_wp2_with fail
            go_ret
            exact ⟨rfl, rfl⟩
          · by_cases h6 : c = 37
            · subst h6
              go_enter Tryz.func55, Tryz.ntmps55
              go_wp2_with fail
              go_ret
              exact ⟨rfl, rfl⟩
            · by_cases h7 : c = 42
              · subst h7
                go_enter Tryz.func55, Tryz.ntmps55
                go_wp2_with fail
                go_ret
                exact ⟨rfl, rfl⟩
              · by_cases h8 : c = 34
                · subst h8
                  go_enter Tryz.func55, Tryz.ntmps55
                  go_wp2_with fail
                  go_ret
                  exact ⟨rfl, rfl⟩
                · by_cases h9 : c = 92
                  · subst h9
                    go_enter Tryz.func55, Tryz.ntmps55
                    go_wp2_with fail
                    go_ret
                    exact ⟨rfl, rfl⟩
                  · have k1 : decide (32 < c) = true := by simpa using h1
                    have k2 : decide (c ≤ 126) = true := by simpa using h2
                    have k3 : (c != 40) = true := by simpa using h3
                    have k4 : (c != 41) = true := by simpa using h4
                    have k5 : (c != 123) = true := by simpa using h5
                    have k6 : (c != 37) = true := by simpa using h6
                    have k7 : (c != 42) = true := by simpa using h7
                    have k8 : (c != 34) = true := by simpa using h8
                    have k9 : (c != 92) = true := by simpa using h9
                    rw [k1, k2, k3, k4, k5, k6, k7, k8, k9]
                    clear h1 h2 h3 h4 h5 h6 h7 h8 h9
                    go_enter Tryz.func55, Tryz.ntmps55
                    go_wp2_with fail
                    go_ret
                    exact ⟨rfl, rfl⟩
    · have k1 : decide (32 < c) = true := by simpa using h1
      have k2 : decide (c ≤ 126) = false := by simpa using h2
      rw [k1, k2]
      clear h1 h2
      go_enter Tryz.func55, Tryz.ntmps55
      go_wp2_with fail
      go_ret
      exact ⟨rfl, rfl⟩
  · have k1 : decide (32 < c) = false := by simpa using h1
    rw [k1]
    clear h1
    go_enter Tryz.func55, Tryz.ntmps55
    go_wp2_with fail
    go_ret
    exact ⟨rfl, rfl⟩

/-- How many '/' are among the first bytes? -/
def slashes (s : ByteArray) (k : Nat) : Nat := ((s.data.toList.take k).filter (· == 47)).length

theorem slashes_succ (s : ByteArray) (k : Nat) (h : k < s.size) : slashes s (k + 1) = slashes s k + if byteAt s k = 47 then 1 else 0 := by
  have h' : k < s.data.toList.length := by rw [← size_bytes]; exact h
  have e : byteAt s k = (s.data.toList[k].toNat : Int) := by
    unfold byteAt; rw [List.getD_eq_getElem?_getD, List.getElem?_eq_getElem h']; rfl
  unfold slashes
  rw [List.take_add_one, List.getElem?_eq_getElem h', e]
  generalize s.data.toList[k] = c
  by_cases hc : c = 47
  · subst hc; simp
  · have : ¬ ((c.toNat : Int) = 47) := fun h => hc (by apply UInt8.toNat_inj.1; simp; omega)
    simp [hc, this]

/-- What 'formed' looks at, of the byte at a place. -/
def spotOk (s : ByteArray) (j : Nat) : Prop := plainB (byteAt s j) = true ∧ (byteAt s j = 47 → j ≠ 0 ∧ j + 1 ≠ s.size ∧ byteAt s (j - 1) ≠ 47)

end Go.Proofs.YtjamgkcmpcnfpaaGreatDoor

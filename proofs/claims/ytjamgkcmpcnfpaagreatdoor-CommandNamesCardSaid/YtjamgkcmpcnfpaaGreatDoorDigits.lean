/-
  The document's 'Digits' and 'end' of numbers.
-/
import Derived.Test.YtjamgkcmpcnfpaaGreatDoorMild
namespace Go.Proofs.YtjamgkcmpcnfpaaGreatDoor
open Go.RowKit

/-- A number's digits. -/
def decL (n : Nat) : List UInt8 := if n < 10 then [UInt8.ofNat (48 + n)] else decL (n / 10) ++ [UInt8.ofNat (48 + n % 10)]
decreasing_by omega

theorem decL_one (n : Nat) (h : n < 10) : decL n = [UInt8.ofNat (48 + n)] := by rw [decL, if_pos h]
theorem decL_more (n : Nat) (h : ¬ n < 10) : decL n = decL (n / 10) ++ [UInt8.ofNat (48 + n % 10)] := by rw [decL, if_neg h]

set_option maxHeartbeats 1000000 in
theorem Digits_one (n : Nat) (h : n < 10) (w : World) : Calls Tryz.prog 56 #[.int .i64 n] w fun e w' => e = .returned (.string ⟨(decL n).toArray⟩) ∧ w = w' := by
  rw [decL_one n h]
  have hn : n = 0 ∨ n = 1 ∨ n = 2 ∨ n = 3 ∨ n = 4 ∨ n = 5 ∨ n = 6 ∨ n = 7 ∨ n = 8 ∨ n = 9 := by omega
  clear h
  rcases hn with rfl | rfl | rfl | rfl | rfl | rfl | rfl | rfl | rfl | rfl
  all_goals
    go_enter Tryz.func56, Tryz.ntmps56
    go_wp2_with fail
    go_ret
    exact ⟨by congr 2, rfl⟩

theorem decL_len : ∀ (N n : Nat), n < N → (decL n).length ≤ n + 1
  | 0, _, h => by omega
  | N + 1, n, h => by
    by_cases h10 : n < 10
    · rw [decL_one n h10]; simp
    · rw [decL_more n h10]
      have := decL_len N (n / 10) (by omega)
      simp
      omega

theorem decL_ne (n : Nat) : decL n ≠ [] := by
  rw [decL]
  split <;> simp

set_option maxHeartbeats 1000000 in
theorem Digits_any : ∀ (N n : Nat), n < N → n ≤ 4294967295 → ∀ w, Calls Tryz.prog 56 #[.int .i64 n] w fun e w' => e = .returned (.string ⟨(decL n).toArray⟩) ∧ w = w'
  | 0, n, h, _, _ => by omega
  | N + 1, n, h, h32, w => by
    by_cases h10 : n < 10
    · exact Digits_one n h10 w
    · have h1 := Digits_any N (n / 10) (by omega) (by omega)
      have h2 := Digits_one (n % 10) (by omega)
      rw [decL_one _ (by omega)] at h2
      rw [show ((n / 10 : Nat) : Int) = (n : Int) / 10 by omega] at h1
      rw [show ((n % 10 : Nat) : Int) = (n : Int) % 10 by omega] at h2
      have H1 := Lib.hid h1; clear h1
      have H2 := Lib.hid h2; clear h2
      rw [decL_more n h10]
      have hlen := decL_len _ (n / 10) (Nat.lt_succ_self _)
      generalize decL (n / 10) = d at *
      have hsz : (⟨d.toArray⟩ : ByteArray).size ≤ 4294967296 := by rw [size_bytes]; simp; omega
      have hsz1 : (⟨#[UInt8.ofNat (48 + n % 10)]⟩ : ByteArray).size = 1 := rfl
      clear hlen
      generalize UInt8.ofNat (48 + n % 10) = x at *
      have hb : decide ((n : Int) < 10) = false := by simp; omega
      go_enter Tryz.func56, Tryz.ntmps56
      go_wp2_with fail
      refine (H1.out _).mono ?_
      rintro e w' ⟨rfl, rfl⟩
      go_wp2_with fail
      refine (H2.out _).mono ?_
      rintro e w' ⟨rfl, rfl⟩
      go_wp2_with fail
      go_ret
      exact ⟨by congr 2, rfl⟩

/-- A range's end's text. -/
def endL (n : Nat) : List UInt8 := if n = 0 then [42] else decL n

theorem end_any (n : Nat) (h : n ≤ 4294967295) (w : World) : Calls Tryz.prog 30 #[.int .i64 n] w fun e w' => e = .returned (.string ⟨(endL n).toArray⟩) ∧ w = w' := by
  unfold endL
  by_cases h0 : n = 0
  · subst h0
    rw [if_pos rfl]
    go_enter Tryz.func30, Tryz.ntmps30
    go_wp2_with fail
    go_ret
    exact ⟨rfl, rfl⟩
  · rw [if_neg h0]
    have HD := Lib.hid (Digits_any (n + 1) n (by omega) h)
    have hb : ((n : Int) == 0) = false := by rw [beq_eq_false_iff_ne]; omega
    generalize decL n = d at *
    go_enter Tryz.func30, Tryz.ntmps30
    go_wp2_with fail
    refine (HD.out _).mono ?_
    rintro e w' ⟨rfl, rfl⟩
    go_wp2_with fail
    go_ret
    exact ⟨rfl, rfl⟩

end Go.Proofs.YtjamgkcmpcnfpaaGreatDoor

/-
  The parser's smallest words, walked: eat, over, atomic, the tests of atoms and of names.
-/
import Derived.Test.YtjamgkcmpcnfpaaGreatDoorBase
namespace Go.Proofs.YtjamgkcmpcnfpaaGreatDoor
open Go.RowKit

set_option maxHeartbeats 400000 in
theorem eat_yes (g : Nat) (t p : ByteArray) (rv kv : Value) (w : World) (hA : At g w t rv kv) (hp : Lib.hasPrefix t.data.toList p.data.toList = true) :
    Calls Tryz.prog 50 #[PP g, .string p] w fun e w' => e = .returned (.tuple #[]) ∧
      At g w' ⟨(Lib.trimPrefix t.data.toList p.data.toList).toArray⟩ rv kv ∧ Kept g w w' := by
  have Hp := Lib.hid hp; clear hp
  go_enter Tryz.func50, Tryz.ntmps50
  go_wp2_with fail
  refine (may_any g t p rv kv w hA).mono ?_
  rintro e w1 ⟨rfl, hA1, hK1⟩
  rw [Hp.out]
  go_wp2_with fail
  refine (must_yes _).mono ?_
  rintro e w2 ⟨rfl, rfl⟩
  go_wp2_with fail
  go_end0
  exact ⟨rfl, hA1, hK1⟩

set_option maxHeartbeats 400000 in
theorem over_any (g : Nat) (t : ByteArray) (a : Option Addr) (n c : Nat) (kv : Value) (w : World) (hA : At g w t (.slice a n c) kv) :
    Calls Tryz.prog 53 #[PP g] w fun e w' => e = .returned (.bool (t.toList.isEmpty && decide (n = 0))) ∧ w = w' := by
  have h0 := hA.c0
  have h1 := hA.c1
  by_cases ht : t.toList.isEmpty = true
  · by_cases hn : n = 0
    · subst hn
      go_enter Tryz.func53, Tryz.ntmps53
      go_wp2
      go_ret
      exact ⟨by simp [ht], rfl⟩
    · have hn' : ((n : Int) == 0) = false := by simp; omega
      go_enter Tryz.func53, Tryz.ntmps53
      go_wp2
      go_ret
      exact ⟨by simp [ht, hn], rfl⟩
  · have ht' : t.toList.isEmpty = false := by simpa using ht
    clear ht
    go_enter Tryz.func53, Tryz.ntmps53
    go_wp2
    go_ret
    exact ⟨by simp [ht'], rfl⟩

def atomB (c : Int) : Bool := decide (32 < c) && decide (c ≤ 126) && decide (Lib.indexByte [40, 41, 123, 37, 42, 34, 92, 93] c.toNat.toUInt8 < 0)

set_option maxHeartbeats 400000 in
theorem atomic_any (c : Int) (w : World) :
    Calls Tryz.prog 91 #[.int .u8 c] w fun e w' => e = .returned (.bool (atomB c)) ∧ w = w' := by
  by_cases h1 : 32 < c
  · by_cases h2 : c ≤ 126
    · go_enter Tryz.func91, Tryz.ntmps91
      go_wp2_with (go_at_call 92; refine (Tryz.strings_IndexByte _ _ _).mono ?_; rintro e w' ⟨rfl, rfl⟩)
      go_ret
      exact ⟨by simp [atomB, h1, h2], rfl⟩
    · go_enter Tryz.func91, Tryz.ntmps91
      go_wp2_with (go_at_call 92; refine (Tryz.strings_IndexByte _ _ _).mono ?_; rintro e w' ⟨rfl, rfl⟩)
      go_ret
      exact ⟨by have : decide (c ≤ 126) = false := by simp; omega
                simp [atomB, this], rfl⟩
  · go_enter Tryz.func91, Tryz.ntmps91
    go_wp2_with (go_at_call 92; refine (Tryz.strings_IndexByte _ _ _).mono ?_; rintro e w' ⟨rfl, rfl⟩)
    go_ret
    exact ⟨by have : decide (32 < c) = false := by simp; omega
              simp [atomB, this], rfl⟩

def atomOr (more : List UInt8) (c : Int) : Bool := atomB c || decide (0 ≤ Lib.indexByte more c.toNat.toUInt8)

set_option maxHeartbeats 400000 in
theorem atom1_any (c : Int) (b : Nat) (more : ByteArray) (w : World) (hb : w.cell? ⟨b, 0, none⟩ = some (.string more)) :
    Calls Tryz.prog 90 #[.int .u8 c, .pointer (some ⟨b, 0, none⟩)] w fun e w' => e = .returned (.bool (atomOr more.data.toList c)) ∧ w = w' := by
  cases h : atomB c
  · go_enter Tryz.func90, Tryz.ntmps90
    go_wp2_with fail
    refine (atomic_any _ _).mono ?_
    rintro e w1 ⟨rfl, rfl⟩
    rw [h]
    go_wp2_with (go_at_call 92; refine (Tryz.strings_IndexByte _ _ _).mono ?_; rintro e w' ⟨rfl, rfl⟩)
    go_ret
    exact ⟨by simp [atomOr, h], rfl⟩
  · go_enter Tryz.func90, Tryz.ntmps90
    go_wp2_with fail
    refine (atomic_any _ _).mono ?_
    rintro e w1 ⟨rfl, rfl⟩
    rw [h]
    go_wp2_with fail
    go_ret
    exact ⟨by simp [atomOr, h], rfl⟩

def nameB (c : Int) : Bool := (decide (97 ≤ c) && decide (c ≤ 122)) || (decide (65 ≤ c) && decide (c ≤ 90)) || (decide (48 ≤ c) && decide (c ≤ 57)) || (c == 46)

set_option maxHeartbeats 1000000 in
theorem name1_any (c : Int) (w : World) :
    Calls Tryz.prog 78 #[.int .u8 c] w fun e w' => e = .returned (.bool (nameB c)) ∧ w = w' := by
  by_cases h1 : 97 ≤ c
  · by_cases h2 : c ≤ 122
    · go_enter Tryz.func78, Tryz.ntmps78
      go_wp2
      go_ret
      exact ⟨by simp [nameB, h1, h2], rfl⟩
    · have h6 : (c == 46) = false := beq_eq_false_iff_ne.2 (by omega)
      go_enter Tryz.func78, Tryz.ntmps78
      go_wp2
      go_ret
      exact ⟨by have : decide (c ≤ 122) = false := by simp; omega
                have : decide (c ≤ 90) = false := by simp; omega
                have : decide (c ≤ 57) = false := by simp; omega
                simp [nameB, *], rfl⟩
  · by_cases h3 : 65 ≤ c
    · by_cases h4 : c ≤ 90
      · go_enter Tryz.func78, Tryz.ntmps78
        go_wp2
        go_ret
        exact ⟨by simp [nameB, h3, h4], rfl⟩
      · have h6 : (c == 46) = false := beq_eq_false_iff_ne.2 (by omega)
        go_enter Tryz.func78, Tryz.ntmps78
        go_wp2
        go_ret
        exact ⟨by have : decide (97 ≤ c) = false := by simp; omega
                  have : decide (c ≤ 90) = false := by simp; omega
                  have : decide (c ≤ 57) = false := by simp; omega
                  simp [nameB, *], rfl⟩
    · by_cases h5 : 48 ≤ c
      · by_cases h7 : c ≤ 57
        · go_enter Tryz.func78, Tryz.ntmps78
          go_wp2
          go_ret
          exact ⟨by simp [nameB, h5, h7], rfl⟩
        · have h6 : (c == 46) = false := beq_eq_false_iff_ne.2 (by omega)
          go_enter Tryz.func78, Tryz.ntmps78
          go_wp2
          go_ret
          exact ⟨by have : decide (97 ≤ c) = false := by simp; omega
                    have : decide (65 ≤ c) = false := by simp; omega
                    have : decide (c ≤ 57) = false := by simp; omega
                    simp [nameB, *], rfl⟩
      · go_enter Tryz.func78, Tryz.ntmps78
        go_wp2
        go_ret
        exact ⟨by have : decide (97 ≤ c) = false := by simp; omega
                  have : decide (65 ≤ c) = false := by simp; omega
                  have : decide (48 ≤ c) = false := by simp; omega
                  simp [nameB, *], rfl⟩

end Go.Proofs.YtjamgkcmpcnfpaaGreatDoor

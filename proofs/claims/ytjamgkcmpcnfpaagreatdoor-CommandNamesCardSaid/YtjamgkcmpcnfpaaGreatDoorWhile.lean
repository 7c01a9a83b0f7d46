/-
  The parser's 'while', at the two tests that the walks meet.
-/
import Derived.Test.YtjamgkcmpcnfpaaGreatDoorWords
namespace Go.Proofs.YtjamgkcmpcnfpaaGreatDoor
open Go.RowKit

/-- The byte at a place, as a number; 0 beyond the end. -/
def byteAt (t : ByteArray) (j : Nat) : Int := ((t.data.toList.getD j 0).toNat : Int)

theorem byteAt_of (t : ByteArray) (j : Nat) (h : j < t.size) : byteAt t j = (t[j].toNat : Int) := by
  have h' : j < t.data.toList.length := by simpa using h
  unfold byteAt
  rw [List.getD_eq_getElem?_getD, List.getElem?_eq_getElem h']
  rfl

set_option maxHeartbeats 1000000 in
theorem while_name (g : Nat) (t : ByteArray) (rv kv : Value) (w : World) (k : Nat) (hA : At g w t rv kv) (hs : t.size ≤ 9223372036854775807) (hk : k ≤ t.size) (hpos : 0 < k)
    (hyes : ∀ j, j < k → nameB (byteAt t j) = true) (hno : k < t.size → nameB (byteAt t k) = false) :
    Calls Tryz.prog 77 #[PP g, .func (.func 78) #[] #[]] w fun e w' => e = .returned (.string (t.extract 0 k)) ∧
      At g w' (t.extract k t.size) rv kv ∧ Kept g w w' := by
  have h0 := hA.c0
  have h0f := hA.f0
  have Hyes := Lib.hid hyes; clear hyes
  have Hno := Lib.hid hno; clear hno
  go_enter Tryz.func77, Tryz.ntmps77
  go_wp2_with fail
  go_loop [5] (fun n => ∃ j : Nat, j ≤ k ∧ n = .int .i64 j) (fun n => t.size - (intOf n).toNat)
  case atStart => exact ⟨0, by omega, rfl⟩
  case round =>
    obtain ⟨j, hj, rfl⟩ := hrel
    by_cases hlt : j < t.size
    · by_cases hjk : j < k
      · have hT : nameB (t[j].toNat : Int) = true := by rw [← byteAt_of t j hlt]; exact Hyes.out j hjk
        have HT := Lib.hid hT; clear hT
        go_wp2_with fail
        refine (name1_any _ _).mono ?_
        rintro e w1 ⟨rfl, rfl⟩
        rw [HT.out]
        go_wp2_with fail
        go_round
        case rel => exact ⟨j + 1, by omega, by go_num⟩
        case measure => simp [intOf]; omega
      · have hjk' : j = k := by omega
        subst hjk'
        have hT : nameB (t[j].toNat : Int) = false := by rw [← byteAt_of t j hlt]; exact Hno.out hlt
        have HT := Lib.hid hT; clear hT
        go_wp2_with fail
        refine (name1_any _ _).mono ?_
        rintro e w1 ⟨rfl, rfl⟩
        rw [HT.out]
        have hb : decide ((0 : Int) < (j : Int)) = true := by simp; omega
        go_wp2_with fail
        refine (must_yes _).mono ?_
        rintro e w2 ⟨rfl, rfl⟩
        go_wp2_with fail
        go_ret
        exact ⟨rfl, hA.set0 _, (Kept.refl _ _).setg 0 _⟩
    · have hjk' : j = k := by omega
      subst hjk'
      have hb : decide ((0 : Int) < (j : Int)) = true := by simp; omega
      go_wp2_with fail
      refine (must_yes _).mono ?_
      rintro e w2 ⟨rfl, rfl⟩
      go_wp2_with fail
      go_ret
      exact ⟨rfl, hA.set0 _, (Kept.refl _ _).setg 0 _⟩

set_option maxHeartbeats 1000000 in
theorem while_atom (g : Nat) (t : ByteArray) (rv kv : Value) (w : World) (b : Nat) (more : ByteArray) (k : Nat) (hA : At g w t rv kv) (hb0 : w.cell? ⟨b, 0, none⟩ = some (.string more)) (hs : t.size ≤ 9223372036854775807) (hk : k ≤ t.size) (hpos : 0 < k)
    (hyes : ∀ j, j < k → atomOr more.data.toList (byteAt t j) = true) (hno : k < t.size → atomOr more.data.toList (byteAt t k) = false) :
    Calls Tryz.prog 77 #[PP g, .func (.func 90) #[] #[.pointer (some ⟨b, 0, none⟩)]] w fun e w' => e = .returned (.string (t.extract 0 k)) ∧
      At g w' (t.extract k t.size) rv kv ∧ Kept g w w' := by
  have h0 := hA.c0
  have h0f := hA.f0
  have Hyes := Lib.hid hyes; clear hyes
  have Hno := Lib.hid hno; clear hno
  go_enter Tryz.func77, Tryz.ntmps77
  go_wp2_with fail
  go_loop [5] (fun n => ∃ j : Nat, j ≤ k ∧ n = .int .i64 j) (fun n => t.size - (intOf n).toNat)
  case atStart => exact ⟨0, by omega, rfl⟩
  case round =>
    obtain ⟨j, hj, rfl⟩ := hrel
    by_cases hlt : j < t.size
    · by_cases hjk : j < k
      · have hT : atomOr more.data.toList (t[j].toNat : Int) = true := by rw [← byteAt_of t j hlt]; exact Hyes.out j hjk
        have HT := Lib.hid hT; clear hT
        go_wp2_with fail
        refine (atom1_any _ _ _ _ hb0).mono ?_
        rintro e w1 ⟨rfl, rfl⟩
        rw [HT.out]
        go_wp2_with fail
        go_round
        case rel => exact ⟨j + 1, by omega, by go_num⟩
        case measure => simp [intOf]; omega
      · have hjk' : j = k := by omega
        subst hjk'
        have hT : atomOr more.data.toList (t[j].toNat : Int) = false := by rw [← byteAt_of t j hlt]; exact Hno.out hlt
        have HT := Lib.hid hT; clear hT
        go_wp2_with fail
        refine (atom1_any _ _ _ _ hb0).mono ?_
        rintro e w1 ⟨rfl, rfl⟩
        rw [HT.out]
        have hb : decide ((0 : Int) < (j : Int)) = true := by simp; omega
        go_wp2_with fail
        refine (must_yes _).mono ?_
        rintro e w2 ⟨rfl, rfl⟩
        go_wp2_with fail
        go_ret
        exact ⟨rfl, hA.set0 _, (Kept.refl _ _).setg 0 _⟩
    · have hjk' : j = k := by omega
      subst hjk'
      have hb : decide ((0 : Int) < (j : Int)) = true := by simp; omega
      go_wp2_with fail
      refine (must_yes _).mono ?_
      rintro e w2 ⟨rfl, rfl⟩
      go_wp2_with fail
      go_ret
      exact ⟨rfl, hA.set0 _, (Kept.refl _ _).setg 0 _⟩

end Go.Proofs.YtjamgkcmpcnfpaaGreatDoor

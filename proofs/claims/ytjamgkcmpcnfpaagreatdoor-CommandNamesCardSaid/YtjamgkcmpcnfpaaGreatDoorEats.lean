/-
  'may' and 'eat', said of lists of bytes.
-/
import Derived.Test.YtjamgkcmpcnfpaaGreatDoorTok
namespace Go.Proofs.YtjamgkcmpcnfpaaGreatDoor
open Go.RowKit

theorem hasPrefix_append (p r : List UInt8) : Lib.hasPrefix (p ++ r) p = true := by
  unfold Lib.hasPrefix
  rw [List.isPrefixOf_iff_prefix]
  exact ⟨r, rfl⟩

theorem trimPrefix_append (p r : List UInt8) : Lib.trimPrefix (p ++ r) p = r := by
  unfold Lib.trimPrefix
  rw [if_pos (hasPrefix_append p r)]
  simp

theorem trimPrefix_none (l p : List UInt8) (h : Lib.hasPrefix l p = false) : Lib.trimPrefix l p = l := by
  unfold Lib.trimPrefix
  rw [h]
  simp

theorem ext_list (t : ByteArray) (l : List UInt8) (h : t.data.toList = l) : (⟨l.toArray⟩ : ByteArray) = t := ext_bytes (by simpa using h.symm)

theorem may_has (g : Nat) (t p : ByteArray) (r : List UInt8) (rv kv : Value) (w : World) (hA : At g w t rv kv) (ht : t.data.toList = p.data.toList ++ r) :
    Calls Tryz.prog 75 #[PP g, .string p] w fun e w' => e = .returned (.bool true) ∧ At g w' ⟨r.toArray⟩ rv kv ∧ Kept g w w' := by
  have h := may_any g t p rv kv w hA
  rw [ht, hasPrefix_append, trimPrefix_append] at h
  exact h

theorem may_not (g : Nat) (t p : ByteArray) (rv kv : Value) (w : World) (hA : At g w t rv kv) (ht : Lib.hasPrefix t.data.toList p.data.toList = false) :
    Calls Tryz.prog 75 #[PP g, .string p] w fun e w' => e = .returned (.bool false) ∧ At g w' t rv kv ∧ Kept g w w' := by
  have h := may_any g t p rv kv w hA
  rw [trimPrefix_none _ _ ht, ht, ext_list t _ rfl] at h
  exact h

theorem eat_has (g : Nat) (t p : ByteArray) (r : List UInt8) (rv kv : Value) (w : World) (hA : At g w t rv kv) (ht : t.data.toList = p.data.toList ++ r) :
    Calls Tryz.prog 50 #[PP g, .string p] w fun e w' => e = .returned (.tuple #[]) ∧ At g w' ⟨r.toArray⟩ rv kv ∧ Kept g w w' := by
  have h := eat_yes g t p rv kv w hA (by rw [ht]; exact hasPrefix_append _ _)
  rw [ht, trimPrefix_append] at h
  exact h

end Go.Proofs.YtjamgkcmpcnfpaaGreatDoor

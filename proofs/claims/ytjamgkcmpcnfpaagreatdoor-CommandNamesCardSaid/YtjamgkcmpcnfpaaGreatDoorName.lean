/-
  The parser's 'name' and 'tag'.
-/
import Derived.Test.YtjamgkcmpcnfpaaGreatDoorSmall
namespace Go.Proofs.YtjamgkcmpcnfpaaGreatDoor
open Go.RowKit

set_option maxHeartbeats 400000 in
theorem name_any (g : Nat) (t : ByteArray) (a b : List UInt8) (rv kv : Value) (w : World) (hA : At g w t rv kv) (ht : t.data.toList = a ++ b) (hs : t.size ≤ 9223372036854775807) (hpos : a ≠ [])
    (ha : allB nameB a = true) (hb : stopB nameB b = true) :
    Calls Tryz.prog 51 #[PP g] w fun e w' => e = .returned (.string ⟨(smallL a).toArray⟩) ∧ At g w' ⟨b.toArray⟩ rv kv ∧ Kept g w w' := by
  have hc := while_name g t rv kv w a.length hA hs (by rw [size_bytes, ht]; simp) (List.length_pos_iff.2 hpos) (allB_at ht ha) (stopB_at ht hb)
  rw [extract_fst t a b ht, extract_snd t a b ht] at hc
  have hsa : (⟨a.toArray⟩ : ByteArray).size ≤ 9223372036854775807 := by
    rw [size_bytes, ht] at hs
    rw [size_bytes]
    simp at hs ⊢
    omega
  have Hc := Lib.hid hc; clear hc
  have Hs := Lib.hid hsa; clear hsa
  clear ht ha hb hpos hs
  go_enter Tryz.func51, Tryz.ntmps51
  go_wp2_with fail
  refine Hc.out.mono ?_
  rintro e w1 ⟨rfl, hA1, hK1⟩
  go_wp2_with fail
  refine (small_any _ _ Hs.out).mono ?_
  rintro e w2 ⟨rfl, hB⟩
  go_wp2_with fail
  go_ret
  exact ⟨by simp, hA1.of_below hB hA1.lt, hK1.trans (Kept.of_below hB (Nat.le_refl _))⟩

set_option maxHeartbeats 400000 in
theorem tag_any (g : Nat) (t : ByteArray) (a b : List UInt8) (rv kv : Value) (w : World) (hA : At g w t rv kv) (ht : t.data.toList = a ++ b) (hs : t.size ≤ 9223372036854775807) (hpos : a ≠ [])
    (ha : allB (atomOr [93]) a = true) (hb : stopB (atomOr [93]) b = true) (hl : a.length ≤ 40) (hp : Lib.indexByte a 43 < 0) :
    Calls Tryz.prog 32 #[PP g] w fun e w' => e = .returned (.string ⟨a.toArray⟩) ∧ At g w' ⟨b.toArray⟩ rv kv ∧ Kept g w w' := by
  have hc := atom_any g t ⟨#[93]⟩ a b rv kv w hA ht hs hpos ha hb
  have Hc := Lib.hid hc; clear hc
  have Hp := Lib.hid hp; clear hp
  have hl' : ((⟨a.toArray⟩ : ByteArray).size : Int) ≤ 40 := by rw [size_bytes]; simp; omega
  have Hl := Lib.hid hl; clear hl
  clear ht ha hb hpos hs
  generalize hgen : (⟨a.toArray⟩ : ByteArray) = A at *
  have Hgen := Lib.hid hgen; clear hgen
  go_enter Tryz.func32, Tryz.ntmps32
  go_wp2_with fail
  refine Hc.out.mono ?_
  rintro e w1 ⟨rfl, hA1, hK1⟩
  go_wp2_with fail
  refine (Tryz.strings_Contains_one _ _ _).mono ?_
  rintro e w2 ⟨rfl, rfl⟩
  have hno : decide (0 ≤ Lib.indexByte A.data.toList 43) = false := by rw [← Hgen.out]; simp; exact Hp.out
  rw [hno]
  go_wp2_with fail
  refine (must_yes _).mono ?_
  rintro e w3 ⟨rfl, rfl⟩
  go_wp2_with fail
  go_ret
  exact ⟨rfl, hA1, hK1⟩

end Go.Proofs.YtjamgkcmpcnfpaaGreatDoor

/-
  The parser's tokens: atom, small, name, tag; said of lists of bytes.
-/
import Derived.Test.YtjamgkcmpcnfpaaGreatDoorWhile
namespace Go.Proofs.YtjamgkcmpcnfpaaGreatDoor
open Go.RowKit

theorem ext_bytes {a b : ByteArray} (h : a.data.toList = b.data.toList) : a = b := by
  cases a; cases b; congr; exact Array.toList_inj.1 h

theorem size_bytes (t : ByteArray) : t.size = t.data.toList.length := by show t.data.size = _; exact Array.length_toList.symm

theorem extract_fst (t : ByteArray) (a b : List UInt8) (h : t.data.toList = a ++ b) : t.extract 0 a.length = ⟨a.toArray⟩ := by
  apply ext_bytes
  simp [h]

theorem extract_snd (t : ByteArray) (a b : List UInt8) (h : t.data.toList = a ++ b) : t.extract a.length t.size = ⟨b.toArray⟩ := by
  apply ext_bytes
  rw [size_bytes]
  simp [h]

theorem byteAt_list (t : ByteArray) (l : List UInt8) (h : t.data.toList = l) (j : Nat) : byteAt t j = ((l.getD j 0).toNat : Int) := by
  unfold byteAt; rw [h]

/-- All bytes pass the test. -/
def allB (T : Int → Bool) (l : List UInt8) : Bool := l.all fun c => T (c.toNat : Int)
/-- The first byte, if any, does not pass. -/
def stopB (T : Int → Bool) (l : List UInt8) : Bool := match l with | [] => true | c :: _ => !T (c.toNat : Int)

theorem allB_at {T : Int → Bool} {t : ByteArray} {a b : List UInt8} (h : t.data.toList = a ++ b) (ha : allB T a = true) : ∀ j, j < a.length → T (byteAt t j) = true := by
  intro j hj
  rw [byteAt_list t _ h]
  have : (a ++ b).getD j 0 = a[j] := by simp [List.getD_eq_getElem?_getD, List.getElem?_append_left hj, List.getElem?_eq_getElem hj]
  rw [this]
  unfold allB at ha
  rw [List.all_eq_true] at ha
  exact ha _ (List.getElem_mem hj)

theorem stopB_at {T : Int → Bool} {t : ByteArray} {a b : List UInt8} (h : t.data.toList = a ++ b) (hb : stopB T b = true) : a.length < t.size → T (byteAt t a.length) = false := by
  intro hlt
  rw [byteAt_list t _ h]
  rw [size_bytes, h, List.length_append] at hlt
  cases b with
  | nil => simp at hlt
  | cons c r =>
    have : (a ++ c :: r).getD a.length 0 = c := by simp [List.getD_eq_getElem?_getD]
    rw [this]
    simpa [stopB] using hb

set_option maxHeartbeats 400000 in
theorem atom_any (g : Nat) (t more : ByteArray) (a b : List UInt8) (rv kv : Value) (w : World) (hA : At g w t rv kv) (ht : t.data.toList = a ++ b) (hs : t.size ≤ 9223372036854775807) (hpos : a ≠ [])
    (ha : allB (atomOr more.data.toList) a = true) (hb : stopB (atomOr more.data.toList) b = true) :
    Calls Tryz.prog 57 #[PP g, .string more] w fun e w' => e = .returned (.string ⟨a.toArray⟩) ∧ At g w' ⟨b.toArray⟩ rv kv ∧ Kept g w w' := by
  have hc := while_atom g t rv kv (w.alloc (.cells #[.string more] 9)) w.heap.size more a.length (hA.alloc _) (by simp) hs (by rw [size_bytes, ht]; simp) (List.length_pos_iff.2 hpos) (allB_at ht ha) (stopB_at ht hb)
  rw [extract_fst t a b ht, extract_snd t a b ht] at hc
  have Hc := Lib.hid hc; clear hc
  have Ht := Lib.hid ht; clear ht ha hb hpos
  have hmf : ∀ (fn : Fn) (first cap : Array Value) (w : World), (Instr.makeFunc fn first cap).run Tryz.prog w = .ok (.func fn first cap) w := fun _ _ _ _ => rfl
  go_enter Tryz.func57, Tryz.ntmps57
  go_wp2_with fail
  refine Hc.out.mono ?_
  rintro e w1 ⟨rfl, hA1, hK1⟩
  go_wp2_with fail
  go_ret
  exact ⟨rfl, hA1, ((Kept.refl _ _).alloc _).trans hK1⟩

end Go.Proofs.YtjamgkcmpcnfpaaGreatDoor

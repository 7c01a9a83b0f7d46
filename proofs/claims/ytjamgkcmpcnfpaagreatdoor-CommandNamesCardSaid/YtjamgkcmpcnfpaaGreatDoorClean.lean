/-
  Package name: odd, formed, Clean, walked at names that are taken.
-/
import Derived.Test.YtjamgkcmpcnfpaaGreatDoorSmall
namespace Go.Proofs.YtjamgkcmpcnfpaaGreatDoor
open Go.RowKit

def oddB (c : Int) : Bool := decide (c ≤ 32) || decide (126 < c) || decide (0 ≤ Lib.indexByte [40, 41, 123, 37, 42, 34, 92] c.toNat.toUInt8)

set_option maxHeartbeats 400000 in
theorem odd_any (c : Int) (w : World) :
    Calls Tryz.prog 148 #[.int .u8 c] w fun e w' => e = .returned (.bool (oddB c)) ∧ w = w' := by
  by_cases h1 : c ≤ 32
  · go_enter Tryz.func148, Tryz.ntmps148
    go_wp2_with (go_at_call 92; refine (Tryz.strings_IndexByte _ _ _).mono ?_; rintro e w' ⟨rfl, rfl⟩)
    go_ret
    exact ⟨by simp [oddB, h1], rfl⟩
  · by_cases h2 : 126 < c
    · go_enter Tryz.func148, Tryz.ntmps148
      go_wp2_with (go_at_call 92; refine (Tryz.strings_IndexByte _ _ _).mono ?_; rintro e w' ⟨rfl, rfl⟩)
      go_ret
      exact ⟨by simp [oddB, h2], rfl⟩
    · go_enter Tryz.func148, Tryz.ntmps148
      go_wp2_with (go_at_call 92; refine (Tryz.strings_IndexByte _ _ _).mono ?_; rintro e w' ⟨rfl, rfl⟩)
      go_ret
      exact ⟨by have a1 : decide (c ≤ 32) = false := by simp; omega
                have a2 : decide (126 < c) = false := by simp; omega
                simp [oddB, a1, a2], rfl⟩

set_option maxHeartbeats 1000000 in
theorem IndexFunc_odd (s : ByteArray) (b c : Nat) (w : World) (hs : s.size ≤ 9223372036854775807)
    (hc : ∀ j, j < s.size → w.cell? ⟨b, j, none⟩ = some (.int .u8 (byteAt s j))) (hodd : ∀ j, j < s.size → oddB (byteAt s j) = false) :
    Calls Tryz.prog 187 #[.slice (some ⟨b, 0, none⟩) s.size c, .func (.func 148) #[] #[]] w fun e w' => e = .returned (.int .i64 (-1)) ∧ w = w' := by
  have Hc := Lib.hid hc; clear hc
  have Ho := Lib.hid hodd; clear hodd
  go_enter Tryz.func187, Tryz.ntmps187
  go_wp2_with fail
  go_loop [8] (fun i => ∃ k : Nat, k ≤ s.size ∧ i = .int .i64 k) (fun i => s.size - (intOf i).toNat)
  case atStart => exact ⟨0, by omega, rfl⟩
  case round =>
    obtain ⟨k, hk, rfl⟩ := hrel
    by_cases hlt : k < s.size
    · have hc0 := Hc.out k hlt
      have ho := Lib.hid (Ho.out k hlt)
      go_wp2_with fail
      refine (odd_any _ _).mono ?_
      rintro e w1 ⟨rfl, rfl⟩
      rw [ho.out]
      go_wp2_with fail
      go_round
      case rel => exact ⟨k + 1, by omega, by go_num⟩
      case measure => simp [intOf]; omega
    · go_wp2_with fail
      go_ret
      exact ⟨rfl, rfl⟩

set_option maxHeartbeats 1000000 in
theorem ContainsFunc_odd (s : ByteArray) (b c : Nat) (w : World) (hs : s.size ≤ 9223372036854775807)
    (hc : ∀ j, j < s.size → w.cell? ⟨b, j, none⟩ = some (.int .u8 (byteAt s j))) (hodd : ∀ j, j < s.size → oddB (byteAt s j) = false) :
    Calls Tryz.prog 146 #[.slice (some ⟨b, 0, none⟩) s.size c, .func (.func 148) #[] #[]] w fun e w' => e = .returned (.bool false) ∧ w = w' := by
  have Hc := Lib.hid (IndexFunc_odd s b c w hs hc hodd)
  clear hc hodd
  go_enter Tryz.func146, Tryz.ntmps146
  go_wp2_with fail
  refine Hc.out.mono ?_
  rintro e w1 ⟨rfl, rfl⟩
  go_wp2_with fail
  go_ret
  exact ⟨rfl, rfl⟩

/-- What 'formed' asks of a name, in the library's words. -/
structure Formed (s : ByteArray) : Prop where
  size : s.size ≤ 40
  parts : Lib.countB s ⟨#[47]⟩ + 1 ≤ 4
  full : Lib.containsS (Lib.splitB ⟨#[47]⟩ 0 (Lib.countB s ⟨#[47]⟩) s) ⟨#[]⟩ = false
  odd : ∀ j, j < s.size → oddB (byteAt s j) = false
  len : (Lib.splitB ⟨#[47]⟩ 0 (Lib.countB s ⟨#[47]⟩) s).length = Lib.countB s ⟨#[47]⟩ + 1

/-- The pieces' cells, in the row that Split has made. -/
theorem pieces_cell (w : World) (l : List ByteArray) : ∀ j, j < l.length → (w.alloc (.cells (l.map Value.string).toArray 9)).cell? ⟨w.heap.size, 0 + j, none⟩ = some (.string (l.getD j ByteArray.empty)) := by
  intro j hj
  rw [Nat.zero_add, World.cell?_alloc_new]
  simp [List.getD_eq_getElem?_getD, List.getElem?_eq_getElem hj]

set_option maxHeartbeats 2000000 in
set_option maxRecDepth 100000 in
theorem formed_yes (s : ByteArray) (m : Int) (w : World) (hM : w.cell? ⟨4, 0, none⟩ = some (.int .i64 m)) (h : Formed s) :
    Calls Tryz.prog 141 #[.string s] w fun e w' => e = .returned (.bool true) ∧ Below w.heap.size w w' := by
  have h40 := h.size
  have h4 := h.parts
  have hS := Tryz.strings_Split s ⟨#[47]⟩ m w (by omega) hM (by decide)
  have hCt := fun (w1 : World) hc => Tryz.slices_Contains_string w.heap.size 0 (Lib.countB s ⟨#[47]⟩ + 1) (Lib.countB s ⟨#[47]⟩ + 1) (Lib.splitB ⟨#[47]⟩ 0 (Lib.countB s ⟨#[47]⟩) s) ⟨#[]⟩ w1 (by rw [h.len]; exact Nat.le_refl _) (by omega) hc
  have hCt1 := hCt _ (pieces_cell w (Lib.splitB ⟨#[47]⟩ 0 (Lib.countB s ⟨#[47]⟩) s))
  rw [List.take_of_length_le (by rw [h.len]; exact Nat.le_refl _), h.full] at hCt1
  have hconv := fun w : World => Lib.run_convert_string_bytes (P := Tryz.prog) w 9 35 5 s Tryz.underlying9 Tryz.underlying35 Tryz.underlying5
  have HS := Lib.hid hS; clear hS
  have H := Lib.hid h; clear h
  have HCt := Lib.hid hCt1; clear hCt1 hCt
  clear hM
  have h5 : decide (((Lib.countB s ⟨#[47]⟩ + 1 : Nat) : Int) ≤ 4) = true := by simp; omega
  generalize hn : Lib.countB s ⟨#[47]⟩ + 1 = n at *
  generalize hP : (Lib.splitB ⟨#[47]⟩ 0 (Lib.countB s ⟨#[47]⟩) s) = P at *
  clear hn hP
  go_enter Tryz.func141, Tryz.ntmps141
  go_wp2_with fail
  refine HS.out.mono ?_
  rintro e w1 ⟨rfl, rfl⟩
  go_wp2_with fail
  refine HCt.out.mono ?_
  rintro e w1 ⟨rfl, rfl⟩
  go_wp2_with fail
  have hb := fun j (hj : j < s.size) => Lib.bytesWorld_cell (w.alloc (.cells (P.map Value.string).toArray 9)) 5 s j hj
  simp only [World.size_alloc] at hb
  refine (ContainsFunc_odd s (w.heap.size + 1) _ _ (by omega) hb H.out.odd).mono ?_
  rintro e w1 ⟨rfl, rfl⟩
  go_wp2_with fail
  go_ret
  exact ⟨rfl, ((Below.refl _ _).alloc (Nat.le_refl _) _).trans ((Lib.bytesWorld_below _ _ _).mono (by simp))⟩

theorem ret_pair {a b : ByteArray} {v : Value} (h : a = b) : Ending.returned (.tuple #[.string a, v]) = .returned (.tuple #[.string b, v]) := by rw [h]

/-- What Clean gives. -/
def cleanL (l : List UInt8) : List UInt8 :=
  (if Lib.equalFold (Lib.cut l [47]).1 [73, 78, 66, 79, 88] then [73, 78, 66, 79, 88] else (Lib.cut l [47]).1) ++ (if (Lib.cut l [47]).2.2 then 47 :: (Lib.cut l [47]).2.1 else [])

set_option maxHeartbeats 2000000 in
set_option maxRecDepth 100000 in
theorem Clean_yes (s : ByteArray) (m : Int) (w : World) (hM : w.cell? ⟨4, 0, none⟩ = some (.int .i64 m)) (hB : 4 < w.heap.size) (h : Formed s) (hasc : ∀ (j : Nat) (b : UInt8), s.data.toList[j]? = some b → b.toNat < 128) :
    Calls Tryz.prog 108 #[.string s] w fun e w' => e = .returned (.tuple #[.string ⟨(cleanL s.data.toList).toArray⟩, .int .i64 0]) ∧ Below w.heap.size w w' := by
  have hF := formed_yes s m w hM h
  have hC := fun (w1 : World) (hb : Below w.heap.size w w1) => Tryz.strings_Cut s ⟨#[47]⟩ m w1 (by have := h.size; omega) ((hb.cell (p := ⟨4, 0, none⟩) hB).trans hM)
  have h40 := h.size
  have hasc1 : ∀ (j : Nat) (b : UInt8), (Lib.cut s.data.toList [47]).1[j]? = some b → b.toNat < 128 := by
    intro j b hj
    unfold Lib.cut at hj
    split at hj
    · simp only [List.getElem?_take] at hj
      split at hj
      · exact hasc _ _ hj
      · cases hj
    · exact hasc _ _ hj
  have hlen1 : (Lib.cut s.data.toList [47]).1.length ≤ 40 := by
    have := size_bytes s
    unfold Lib.cut
    split
    · simp; omega
    · simp; omega
  have hlen2 : (Lib.cut s.data.toList [47]).2.1.length ≤ 40 := by
    have := size_bytes s
    unfold Lib.cut
    split
    · simp; omega
    · simp
  have hcl : cleanL s.data.toList = (if Lib.equalFold (Lib.cut s.data.toList [47]).1 [73, 78, 66, 79, 88] then [73, 78, 66, 79, 88] else (Lib.cut s.data.toList [47]).1) ++ (if (Lib.cut s.data.toList [47]).2.2 then 47 :: (Lib.cut s.data.toList [47]).2.1 else []) := rfl
  have HF := Lib.hid hF; clear hF
  have HC := Lib.hid hC; clear hC
  generalize hcut : Lib.cut s.data.toList [47] = q at *
  obtain ⟨fi, re, mo⟩ := q
  simp only at hasc1 hlen1 hlen2 hcl
  have Hcut := Lib.hid hcut; clear hcut
  have hE := fun w1 => Tryz.strings_EqualFold ⟨fi.toArray⟩ ⟨#[73, 78, 66, 79, 88]⟩ w1 (by rw [size_bytes]; simp; omega) (by simpa using hasc1) (by
    intro j b hj
    have : b ∈ ([73, 78, 66, 79, 88] : List UInt8) := List.mem_of_getElem? hj
    simp at this
    rcases this with rfl | rfl | rfl | rfl | rfl <;> decide)
  have HE := Lib.hid hE; clear hE
  have Hcl := Lib.hid hcl; clear hcl
  clear hM hasc hasc1 h
  go_enter Tryz.func108, Tryz.ntmps108
  go_wp2_with fail
  refine HF.out.mono ?_
  rintro e w1 ⟨rfl, hB1⟩
  go_wp2_with fail
  refine (HC.out _ hB1).mono ?_
  rintro e w2 ⟨rfl, n, rfl⟩
  simp only [List.toList_toArray, Hcut.out]
  go_wp2_with fail
  refine (HE.out _).mono ?_
  rintro e w3 ⟨rfl, rfl⟩
  cases hef : Lib.equalFold fi [73, 78, 66, 79, 88] <;> cases mo
  all_goals
    simp only [List.toList_toArray, hef]
    have Hef := Lib.hid hef; clear hef
    go_wp2_with fail
    go_ret2
    refine ⟨?_, below_drewN hB1 n⟩
    have hc := Hcl.out
    rw [Hef.out] at hc
    simp only [Bool.false_eq_true, if_true, if_false, List.append_nil] at hc
    rw [hc]
    first | rfl | exact ret_pair (ext_bytes (by simp))

end Go.Proofs.YtjamgkcmpcnfpaaGreatDoor

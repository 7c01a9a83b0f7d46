/-
  'small': a text in small letters; and the parser's 'name', which uses it.
-/
import Derived.Test.YtjamgkcmpcnfpaaGreatDoorTok
import Derived.Lib.ConvBytes
import Derived.Lib.AtoiErrMem
import Derived.Laws.BytesArg
namespace Go.Proofs.YtjamgkcmpcnfpaaGreatDoor
open Go.RowKit

def lowC (c : Int) : Int := if 65 ≤ c ∧ c ≤ 90 then c + 32 else c
def smallL (l : List UInt8) : List UInt8 := l.map fun c => UInt8.ofNat (lowC (c.toNat : Int)).toNat

theorem byteAt_lt (t : ByteArray) (j : Nat) : 0 ≤ byteAt t j ∧ byteAt t j < 256 := by
  unfold byteAt
  have := (t.data.toList.getD j 0).toNat_lt
  omega

theorem lowC_eq (c : Int) (h1 : 65 ≤ c) (h2 : c ≤ 90) : lowC c = c + 97 - 65 := by unfold lowC; rw [if_pos ⟨h1, h2⟩]; omega
theorem lowC_lo (c : Int) (h1 : c < 65) : lowC c = c := by unfold lowC; rw [if_neg (by omega)]
theorem lowC_hi (c : Int) (h1 : 90 < c) : lowC c = c := by unfold lowC; rw [if_neg (by omega)]

/-- After k rounds: the row's first k bytes are small. -/
def SmallRel (s : ByteArray) (w : World) (k : Nat) (wr : World) : Prop :=
  Below w.heap.size w wr ∧ w.heap.size < wr.heap.size ∧
    ∀ j, j < s.size → wr.cell? ⟨w.heap.size, j, none⟩ = some (.int .u8 (if j < k then lowC (byteAt s j) else byteAt s j)) ∧ wr.frozen? ⟨w.heap.size, j, none⟩ = false

theorem SmallRel.start (s : ByteArray) (w : World) : SmallRel s w 0 (Lib.bytesWorld w 5 s) := by
  refine ⟨Lib.bytesWorld_below w 5 s, by rw [Lib.bytesWorld_size]; omega, fun j hj => ⟨?_, ?_⟩⟩
  · rw [Lib.bytesWorld_cell w 5 s j hj, if_neg (by omega)]; rfl
  · have h := Lib.bytesWorld_at_new w 5 s
    unfold World.frozen?
    rw [h]
    simp [Lib.bytesCells]
    omega

theorem SmallRel.store {s : ByteArray} {w wr : World} {k : Nat} (h : SmallRel s w k wr) (hk : k < s.size) (v : Int) (hv : v = lowC (byteAt s k)) : SmallRel s w (k + 1) (wr.setCell ⟨w.heap.size, k, none⟩ (.int .u8 v)) := by
  obtain ⟨hB, hz, hc⟩ := h
  refine ⟨hB.setCell (p := ⟨w.heap.size, k, none⟩) (Nat.le_refl _) _, by simpa [World.setCell] using hz, fun j hj => ⟨?_, ?_⟩⟩
  · by_cases e : j = k
    · subst e
      rw [World.cell?_setCell_same _ _ _ (hc j hj).1, hv, if_pos (by omega)]
    · rw [World.cell?_setCell_other _ _ _ _ (fun e2 => e (Addr.mk.inj e2).2.1.symm), (hc j hj).1]
      congr 2
      by_cases l : j < k
      · rw [if_pos l, if_pos (by omega)]
      · rw [if_neg l, if_neg (by omega)]
  · rw [World.frozen?_setCell]; exact (hc j hj).2

theorem SmallRel.skip {s : ByteArray} {w wr : World} {k : Nat} (h : SmallRel s w k wr) (hv : byteAt s k = lowC (byteAt s k)) : SmallRel s w (k + 1) wr := by
  obtain ⟨hB, hz, hc⟩ := h
  refine ⟨hB, hz, fun j hj => ⟨?_, (hc j hj).2⟩⟩
  rw [(hc j hj).1]
  congr 2
  by_cases e : j = k
  · subst e; rw [if_neg (by omega), if_pos (by omega)]; exact hv
  · by_cases l : j < k
    · rw [if_pos l, if_pos (by omega)]
    · rw [if_neg l, if_neg (by omega)]

theorem SmallRel.string {s : ByteArray} {w wr : World} (h : SmallRel s w s.size wr) (cap : Nat) :
    (convert 35 9 (.slice (some ⟨w.heap.size, 0, none⟩) s.size cap)).run Tryz.prog wr = .ok (.string ⟨(smallL s.data.toList).toArray⟩) wr := by
  have := run_convert_bytes_arg (P := Tryz.prog) wr 35 5 Tryz.underlying35 Tryz.underlying5 w.heap.size 0 s.size cap (s.data.toList.map fun c => lowC (c.toNat : Int)) (by rw [List.length_map, size_bytes]) (fun i hi => by
    rw [Nat.zero_add, (h.2.2 i hi).1, if_pos hi]
    rw [size_bytes] at hi
    simp only [byteAt, List.getD_eq_getElem?_getD, List.getElem?_map, List.getElem?_eq_getElem hi]
    rfl) 9 Tryz.underlying9
  rw [this]
  simp [strOfNums, smallL]

set_option maxHeartbeats 2000000 in
theorem small_any (s : ByteArray) (w : World) (hs : s.size ≤ 9223372036854775807) :
    Calls Tryz.prog 76 #[.string s] w fun e w' => e = .returned (.string ⟨(smallL s.data.toList).toArray⟩) ∧ Below w.heap.size w w' := by
  have hconv := fun w : World => Lib.run_convert_string_bytes (P := Tryz.prog) w 9 35 5 s Tryz.underlying9 Tryz.underlying35 Tryz.underlying5
  go_enter Tryz.func76, Tryz.ntmps76
  go_wp2_with fail
  clear hconv
  go_loopw [10] (fun i wr => ∃ k : Nat, k ≤ s.size ∧ i = .int .i64 k ∧ SmallRel s w k wr)
    (fun i _ => s.size - (intOf i).toNat)
  case atStart => exact ⟨0, by omega, rfl, SmallRel.start s w⟩
  case round =>
    obtain ⟨k, hk, rfl, hR⟩ := hrel
    by_cases hlt : k < s.size
    · have hc0 : wr.cell? ⟨w.heap.size, k, none⟩ = some (.int .u8 (byteAt s k)) := by have := (hR.2.2 k hlt).1; rwa [if_neg (by omega)] at this
      have hf0 := (hR.2.2 k hlt).2
      have hb := byteAt_lt s k
      have hb1 := hb.1
      have hb2 := hb.2
      clear hb
      have hst := hR.store hlt
      have hsk := hR.skip
      clear hR
      generalize byteAt s k = c at *
      by_cases h1 : 65 ≤ c
      · by_cases h2 : c ≤ 90
        · have hR' := hst (c + 97 - 65) (lowC_eq c h1 h2).symm
          clear hst hsk
          go_wp2_with fail
          go_roundw
          case rel => exact ⟨k + 1, by omega, by go_num, hR'⟩
          case measure => simp [intOf]; omega
        · have hR' := hsk (lowC_hi c (by omega)).symm
          clear hst hsk
          go_wp2_with fail
          go_roundw
          case rel => exact ⟨k + 1, by omega, by go_num, hR'⟩
          case measure => simp [intOf]; omega
      · have hR' := hsk (lowC_lo c (by omega)).symm
        clear hst hsk
        go_wp2_with fail
        go_roundw
        case rel => exact ⟨k + 1, by omega, by go_num, hR'⟩
        case measure => simp [intOf]; omega
    · have e : k = s.size := by omega
      subst e
      have hS := fun cap => hR.string cap
      have hB := hR.1
      clear hR
      go_wp2_with fail
      go_ret
      exact ⟨rfl, hB⟩

end Go.Proofs.YtjamgkcmpcnfpaaGreatDoor

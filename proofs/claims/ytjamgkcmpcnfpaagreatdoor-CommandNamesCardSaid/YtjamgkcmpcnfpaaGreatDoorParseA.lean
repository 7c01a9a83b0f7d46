/-
  Parse's parts: the reading of a line within 'try'.
-/
import Derived.Test.YtjamgkcmpcnfpaaGreatDoorTry
import Derived.RegionTactic
import Derived.ChangeAlike
namespace Go.Proofs.YtjamgkcmpcnfpaaGreatDoor
open Go.RowKit

set_option maxHeartbeats 400000 in
theorem long_no (s : ByteArray) (w : World) (h : s.size ≤ 2000) : Calls Tryz.prog 20 #[.string s] w fun e w' => e = .returned (.bool false) ∧ w = w' := by
  have h' : decide ((2000 : Int) < (s.size : Int)) = false := by simp; omega
  go_enter Tryz.func20, Tryz.ntmps20
  go_wp2
  go_ret
  exact ⟨rfl, rfl⟩

set_option maxHeartbeats 1000000 in
theorem IndexFunc_long (b o n c : Nat) (parts : List ByteArray) (w : World) (hn : n = parts.length) (hmax : n ≤ 100)
    (hc : ∀ j, j < n → w.cell? ⟨b, o + j, none⟩ = some (.string (parts.getD j ByteArray.empty))) (hl : ∀ j, j < n → (parts.getD j ByteArray.empty).size ≤ 2000) :
    Calls Tryz.prog 48 #[.slice (some ⟨b, o, none⟩) n c, .func (.func 20) #[] #[]] w fun e w' => e = .returned (.int .i64 (-1)) ∧ w = w' := by
  have Hc := Lib.hid hc; clear hc
  have Hl := Lib.hid hl; clear hl
  clear hn
  go_enter Tryz.func48, Tryz.ntmps48
  go_wp2_with fail
  go_loop [8] (fun i => ∃ k : Nat, k ≤ n ∧ i = .int .i64 k) (fun i => n - (intOf i).toNat)
  case atStart => exact ⟨0, by omega, rfl⟩
  case round =>
    obtain ⟨k, hk, rfl⟩ := hrel
    by_cases hlt : k < n
    · have hc0 := Hc.out k hlt
      have hl0 := Lib.hid (Hl.out k hlt)
      generalize parts.getD k ByteArray.empty = s at *
      go_wp2_with fail
      refine (long_no _ _ hl0.out).mono ?_
      rintro e w1 ⟨rfl, rfl⟩
      go_wp2_with fail
      go_round
      case rel => exact ⟨k + 1, by omega, by go_num⟩
      case measure => simp [intOf]; omega
    · go_wp2_with fail
      go_ret
      exact ⟨rfl, rfl⟩

set_option maxHeartbeats 1000000 in
theorem ContainsFunc_long (b o n c : Nat) (parts : List ByteArray) (w : World) (hn : n = parts.length) (hmax : n ≤ 100)
    (hc : ∀ j, j < n → w.cell? ⟨b, o + j, none⟩ = some (.string (parts.getD j ByteArray.empty))) (hl : ∀ j, j < n → (parts.getD j ByteArray.empty).size ≤ 2000) :
    Calls Tryz.prog 21 #[.slice (some ⟨b, o, none⟩) n c, .func (.func 20) #[] #[]] w fun e w' => e = .returned (.bool false) ∧ w = w' := by
  have Hc := Lib.hid (IndexFunc_long b o n c parts w hn hmax hc hl)
  clear hc hl hn
  go_enter Tryz.func21, Tryz.ntmps21
  go_wp2_with fail
  refine Hc.out.mono ?_
  rintro e w1 ⟨rfl, rfl⟩
  go_wp2_with fail
  go_ret
  exact ⟨rfl, rfl⟩

/-- The world in which 'try' is called: the command's variable, the parser, the variable that holds its address. -/
structure PW (w : World) (p0 : ByteArray) (rv : Value) (pb g : Nat) (W : World) : Prop where
  x : W.heap[w.heap.size]? = some (.cells zeroCmd 31 (0, 0))
  p : W.heap[pb]? = some (.cells #[PP g] 49 (0, 0))
  a : At g W p0 rv (.slice none 0 0)
  below : Below w.heap.size w W
  size : W.heap.size = w.heap.size + 3
  at_ : (pb = w.heap.size + 1 ∧ g = w.heap.size + 2) ∨ (pb = w.heap.size + 2 ∧ g = w.heap.size + 1)

theorem At.of_block {g : Nat} {w : World} {t : ByteArray} {rv kv : Value} {ty : TypeId} (h : w.heap[g]? = some (.cells #[.string t, rv, kv] ty (0, 0))) : At g w t rv kv :=
  ⟨cells_at h rfl, cells_at h rfl, cells_at h rfl, Lib.frozen_of_heap h 0, Lib.frozen_of_heap h 1, Lib.frozen_of_heap h 2⟩

theorem pw_a (w : World) (p0 : ByteArray) (rv : Value) : PW w p0 rv (w.heap.size + 1) (w.heap.size + 2)
    (((w.alloc (.cells zeroCmd 31)).alloc (.cells #[.pointer (some ⟨w.heap.size + 2, 0, none⟩)] 49)).alloc (.cells #[.string p0, rv, .slice none 0 0] 51)).drew := by
  refine ⟨?_, ?_, At.drew (At.of_block (ty := 51) ?_), ?_, by simp, .inl ⟨rfl, rfl⟩⟩
  · show (((w.alloc _).alloc _).alloc _).heap[_]? = _
    rw [heap_alloc_lt _ _ _ (by simp only [World.size_alloc]; omega), heap_alloc_lt _ _ _ (by simp only [World.size_alloc]; omega), heap_alloc_at _ _ _ rfl]
  · show (((w.alloc _).alloc _).alloc _).heap[_]? = _
    rw [heap_alloc_lt _ _ _ (by simp only [World.size_alloc]; omega), heap_alloc_at _ _ _ (by simp only [World.size_alloc])]
  · rw [heap_alloc_at _ _ _ (by simp only [World.size_alloc])]
  · exact ((((Below.refl _ w).alloc (by omega) _).alloc (by simp only [World.size_alloc]; omega) _).alloc (by simp only [World.size_alloc]; omega) _).drew

theorem pw_b (w : World) (p0 : ByteArray) (rv : Value) : PW w p0 rv (w.heap.size + 2) (w.heap.size + 1)
    (((w.alloc (.cells zeroCmd 31)).alloc (.cells #[.string p0, rv, .slice none 0 0] 51)).alloc (.cells #[.pointer (some ⟨w.heap.size + 1, 0, none⟩)] 49)).drew := by
  refine ⟨?_, ?_, At.drew (At.alloc (At.of_block (ty := 51) ?_) _), ?_, by simp, .inr ⟨rfl, rfl⟩⟩
  · show (((w.alloc _).alloc _).alloc _).heap[_]? = _
    rw [heap_alloc_lt _ _ _ (by simp only [World.size_alloc]; omega), heap_alloc_lt _ _ _ (by simp only [World.size_alloc]; omega), heap_alloc_at _ _ _ rfl]
  · show (((w.alloc _).alloc _).alloc _).heap[_]? = _
    rw [heap_alloc_at _ _ _ (by simp only [World.size_alloc])]
  · rw [heap_alloc_at _ _ _ (by simp only [World.size_alloc])]
  · exact ((((Below.refl _ w).alloc (by omega) _).alloc (by simp only [World.size_alloc]; omega) _).alloc (by simp only [World.size_alloc]; omega) _).drew

/-- What the reading of a line gives. -/
def Gives (p0 : ByteArray) (rv : Value) (w : World) (C : Array Value → Prop) (R : Array Value → World → Prop) : Prop :=
  ∀ g w1, w.heap.size ≤ g → At g w1 p0 rv (.slice none 0 0) → Below w.heap.size w w1 → w1.heap.size = w.heap.size + 4 →
    Calls Tryz.prog 24 #[PP g] w1 fun e w' => ∃ cs, e = .returned (.agg cs) ∧ C cs ∧ Done g (.slice none 0 0) w' ∧ Kept2 g w1.heap.size w1 w' ∧ R cs w'

set_option maxHeartbeats 2000000 in
set_option maxRecDepth 100000 in
theorem Parse2_ok (p0 : ByteArray) (rv : Value) (pb g : Nat) (w W : World) (hW : PW w p0 rv pb g W) (C : Array Value → Prop) (hC : ∀ cs, C cs → cs.size = 15 ∧ cs.all (·.oneCell') = true) (R : Array Value → World → Prop) (hG : Gives p0 rv w C R) :
    Calls Tryz.prog 23 #[.pointer (some ⟨pb, 0, none⟩), .pointer (some ⟨w.heap.size, 0, none⟩)] (W.alloc (.cells #[.bool false] 4)) fun e w' => ∃ cs w2, e = .returned (.tuple #[]) ∧ w' = w2.setRow w.heap.size cs ∧ C cs ∧ R cs w2 ∧
      Kept2 g (w.heap.size + 4) (W.alloc (.cells #[.bool false] 4)) w2 := by
  have hat := hW.at_
  have hsz := hW.size
  have hpb := cell_of_block ((heap_alloc_lt W (.cells #[.bool false] 4) pb (by omega)).trans hW.p)
  have hx0 := (heap_alloc_lt W (.cells #[.bool false] 4) w.heap.size (by omega)).trans hW.x
  have hg' := hG g (W.alloc (.cells #[.bool false] 4)) (by omega) (hW.a.alloc _) (hW.below.alloc (by omega) _) (by simp [hsz])
  have e4 : (W.alloc (.cells #[.bool false] 4)).heap.size = w.heap.size + 4 := by simp [hsz]
  rw [e4] at hg'
  have HG := Lib.hid hg'; clear hg'
  have Hx := Lib.hid hx0; clear hx0
  have HC := Lib.hid hC; clear hC
  have Hat := Lib.hid hat; clear hat
  have Hsz := Lib.hid e4; clear e4 hsz
  generalize W.alloc (.cells #[.bool false] 4) = W4 at *
  clear hW hG
  go_enter Tryz.func23, Tryz.ntmps23
  go_wp2_with fail
  refine HG.out.mono ?_
  rintro e w2 ⟨cs, rfl, hCs, _, hK, hR⟩
  obtain ⟨h15, hone⟩ := HC.out cs hCs
  have h2 := Lib.hid ((hK.block w.heap.size (by rw [Hsz.out]; omega) (by have := Hat.out; omega) (by omega)).trans Hx.out)
  have Hone := Lib.hid hone; clear hone
  have hi : (Tryz.prog.info? 31).map (·.size) = some cs.size := by rw [h15]; kernel_rfl
  have hz : zeroCmd.size = cs.size := by rw [h15]; rfl
  have Hz := Lib.hid hz; clear hz h15
  go_wp2_with (refine wpList_store_row rfl 31 _ _ rfl w.heap.size cs rfl rfl 31 zeroCmd h2.out hi Hz.out Hone.out ?_)
  exact ⟨rfl, _, results_none rfl _ _ _, rfl, cs, w2, rfl, hCs, hR, hK⟩

end Go.Proofs.YtjamgkcmpcnfpaaGreatDoor

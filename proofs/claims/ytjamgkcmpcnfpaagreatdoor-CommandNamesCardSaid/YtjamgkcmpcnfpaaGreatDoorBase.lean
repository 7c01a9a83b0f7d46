/-
  Words that the walks of the seat use: the parser's state in memory, and what a call of one of its methods leaves as it was.
-/
import Derived.Test.YtjamgkcmpcnfpaaGreatDoorShelf
import Derived.Test.YtjamgkcmpcnfpaaGreatDoorProg
import Derived.WalkKit
import Derived.WalkSpells
import Derived.WalkLawsBesides
import Derived.Lib.Hide
namespace Go.Proofs.YtjamgkcmpcnfpaaGreatDoor
open Go.RowKit

/-- All that was there stands as it was, but for block g. -/
structure Kept (g : Nat) (w w' : World) : Prop where
  os : w'.os = w.os
  tape : w'.tape = w.tape
  output : w'.output = w.output
  size : w.heap.size ≤ w'.heap.size
  block : ∀ k, k < w.heap.size → k ≠ g → w'.heap[k]? = w.heap[k]?

theorem Kept.refl (g : Nat) (w : World) : Kept g w w := ⟨rfl, rfl, rfl, Nat.le_refl _, fun _ _ _ => rfl⟩

theorem Kept.trans {g : Nat} {a b c : World} (h : Kept g a b) (k : Kept g b c) : Kept g a c :=
  ⟨k.os.trans h.os, k.tape.trans h.tape, k.output.trans h.output, Nat.le_trans h.size k.size, fun i hi hg => (k.block i (Nat.lt_of_lt_of_le hi h.size) hg).trans (h.block i hi hg)⟩

theorem Kept.of_below {g B : Nat} {w w' : World} (h : Below B w w') (hB : w.heap.size ≤ B) : Kept g w w' :=
  ⟨h.os, h.tape, h.output, h.size, fun k hk _ => h.block k (Nat.lt_of_lt_of_le hk hB)⟩

theorem Kept.andBelow {g B : Nat} {a b c : World} (h : Kept g a b) (k : Below B b c) (hB : a.heap.size ≤ B) : Kept g a c :=
  ⟨k.os.trans h.os, k.tape.trans h.tape, k.output.trans h.output, Nat.le_trans h.size k.size, fun i hi hg => (k.block i (by omega)).trans (h.block i hi hg)⟩

theorem Kept.below {g B : Nat} {w w' : World} (h : Kept g w w') (hg : B ≤ g) (hB : B ≤ w.heap.size) : Below B w w' :=
  ⟨h.os, h.tape, h.output, h.size, fun k hk => h.block k (by omega) (by omega)⟩

theorem Kept.drew {g : Nat} {a w : World} (h : Kept g a w) : Kept g a w.drew := ⟨h.os, h.tape, h.output, h.size, h.block⟩

theorem Kept.drewN {g : Nat} {a w : World} (n : Nat) (h : Kept g a w) : Kept g a (w.drewN n) := ⟨h.os, h.tape, h.output, h.size, h.block⟩

theorem Kept.alloc {g : Nat} {a w : World} (h : Kept g a w) (o : Obj) : Kept g a (w.alloc o) :=
  h.trans ⟨rfl, rfl, rfl, by simp, fun k hk _ => Below.heap_alloc _ _ _ (by omega)⟩

/-- A store into block g, or into a block that came later. -/
theorem Kept.setCell {g : Nat} {a w : World} (h : Kept g a w) {p : Addr} (hp : p.block = g ∨ a.heap.size ≤ p.block) (u : Value) : Kept g a (w.setCell p u) :=
  ⟨h.os, h.tape, h.output, by simpa [World.setCell] using h.size, fun k hk hg => (Below.heap_setCell _ _ _ _ (by omega)).trans (h.block k hk hg)⟩

theorem Kept.setg {g : Nat} {a w : World} (h : Kept g a w) (o : Nat) (u : Value) : Kept g a (w.setCell ⟨g, o, none⟩ u) := h.setCell (p := ⟨g, o, none⟩) (Or.inl rfl) u

theorem Kept.cell {g : Nat} {w w' : World} (h : Kept g w w') {p : Addr} (hp : p.block < w.heap.size) (hg : p.block ≠ g) : w'.cell? p = w.cell? p := World.cell?_of_block (w := w) (h.block p.block hp hg)

theorem Kept.frozen {g : Nat} {w w' : World} (h : Kept g w w') {p : Addr} (hp : p.block < w.heap.size) (hg : p.block ≠ g) : w'.frozen? p = w.frozen? p := World.frozen?_of_block (w := w) (h.block p.block hp hg)

/-- The parser's block: the text that is left, what lies behind it, the keys. -/
structure At (g : Nat) (w : World) (t : ByteArray) (rv kv : Value) : Prop where
  c0 : w.cell? ⟨g, 0, none⟩ = some (.string t)
  c1 : w.cell? ⟨g, 1, none⟩ = some rv
  c2 : w.cell? ⟨g, 2, none⟩ = some kv
  f0 : w.frozen? ⟨g, 0, none⟩ = false
  f1 : w.frozen? ⟨g, 1, none⟩ = false
  f2 : w.frozen? ⟨g, 2, none⟩ = false

theorem At.lt {g : Nat} {w : World} {t : ByteArray} {rv kv : Value} (h : At g w t rv kv) : g < w.heap.size := World.block_lt_of_cell? _ _ h.c0

theorem At.of_below {g B : Nat} {w w' : World} {t : ByteArray} {rv kv : Value} (h : At g w t rv kv) (hb : Below B w w') (hB : g < B) : At g w' t rv kv :=
  ⟨(hb.cell (p := ⟨g, 0, none⟩) hB).trans h.c0, (hb.cell (p := ⟨g, 1, none⟩) hB).trans h.c1, (hb.cell (p := ⟨g, 2, none⟩) hB).trans h.c2,
   (hb.frozen (p := ⟨g, 0, none⟩) hB).trans h.f0, (hb.frozen (p := ⟨g, 1, none⟩) hB).trans h.f1, (hb.frozen (p := ⟨g, 2, none⟩) hB).trans h.f2⟩

theorem At.alloc {g : Nat} {w : World} {t : ByteArray} {rv kv : Value} (h : At g w t rv kv) (o : Obj) : At g (w.alloc o) t rv kv :=
  h.of_below ((Below.refl w.heap.size w).alloc (Nat.le_refl _) o) h.lt

theorem At.drew {g : Nat} {w : World} {t : ByteArray} {rv kv : Value} (h : At g w t rv kv) : At g w.drew t rv kv := h.of_below (Below.refl w.heap.size w).drew h.lt

theorem At.set0 {g : Nat} {w : World} {t : ByteArray} {rv kv : Value} (h : At g w t rv kv) (t' : ByteArray) : At g (w.setCell ⟨g, 0, none⟩ (.string t')) t' rv kv :=
  ⟨World.cell?_setCell_same _ _ _ h.c0, (World.cell?_setCell_other _ _ _ _ (by simp)).trans h.c1, (World.cell?_setCell_other _ _ _ _ (by simp)).trans h.c2,
   (World.frozen?_setCell _ _ _ _).trans h.f0, (World.frozen?_setCell _ _ _ _).trans h.f1, (World.frozen?_setCell _ _ _ _).trans h.f2⟩

theorem At.set1 {g : Nat} {w : World} {t : ByteArray} {rv kv : Value} (h : At g w t rv kv) (r' : Value) : At g (w.setCell ⟨g, 1, none⟩ r') t r' kv :=
  ⟨(World.cell?_setCell_other _ _ _ _ (by simp)).trans h.c0, World.cell?_setCell_same _ _ _ h.c1, (World.cell?_setCell_other _ _ _ _ (by simp)).trans h.c2,
   (World.frozen?_setCell _ _ _ _).trans h.f0, (World.frozen?_setCell _ _ _ _).trans h.f1, (World.frozen?_setCell _ _ _ _).trans h.f2⟩

/-- A store elsewhere. -/
theorem At.other {g : Nat} {w : World} {t : ByteArray} {rv kv : Value} (h : At g w t rv kv) {p : Addr} (hp : p.block ≠ g) (u : Value) : At g (w.setCell p u) t rv kv :=
  ⟨(World.cell?_setCell_other _ _ _ _ (fun e => hp (by rw [e]))).trans h.c0, (World.cell?_setCell_other _ _ _ _ (fun e => hp (by rw [e]))).trans h.c1, (World.cell?_setCell_other _ _ _ _ (fun e => hp (by rw [e]))).trans h.c2,
   (World.frozen?_setCell _ _ _ _).trans h.f0, (World.frozen?_setCell _ _ _ _).trans h.f1, (World.frozen?_setCell _ _ _ _).trans h.f2⟩

abbrev PP (g : Nat) : Value := .pointer (some ⟨g, 0, none⟩)

/-- What a panic of 'must' carries. -/
abbrev wrongV : Value := .iface 83 (.agg #[])
abbrev Wrong : Ending := .panicked [{ v := .iface 83 (.agg #[]), recovered := false }]

set_option maxHeartbeats 400000 in
theorem must_yes (w : World) : Calls Tryz.prog 33 #[.bool true] w fun e w' => e = .returned (.tuple #[]) ∧ w = w' := by
  go_enter Tryz.func33, Tryz.ntmps33
  go_wp2
  go_end0
  exact ⟨rfl, rfl⟩

set_option maxHeartbeats 400000 in
theorem must_no (w : World) : Calls Tryz.prog 33 #[.bool false] w fun e w' => e = Wrong ∧ w = w' := by
  go_enter Tryz.func33, Tryz.ntmps33
  go_wp2
  exact ⟨rfl, rfl, rfl⟩

set_option maxHeartbeats 400000 in
theorem may_any (g : Nat) (t p : ByteArray) (rv kv : Value) (w : World) (hA : At g w t rv kv) :
    Calls Tryz.prog 75 #[PP g, .string p] w fun e w' => e = .returned (.bool (Lib.hasPrefix t.data.toList p.data.toList)) ∧
      At g w' ⟨(Lib.trimPrefix t.data.toList p.data.toList).toArray⟩ rv kv ∧ Kept g w w' := by
  have h0 := hA.c0
  have h0f := hA.f0
  go_enter Tryz.func75, Tryz.ntmps75
  go_wp2_with (go_at_call 106; refine (Tryz.strings_CutPrefix _ _ _).mono ?_; rintro e w' ⟨rfl, rfl⟩)
  go_ret
  exact ⟨rfl, hA.set0 _, (Kept.refl _ _).setg 0 _⟩

end Go.Proofs.YtjamgkcmpcnfpaaGreatDoor

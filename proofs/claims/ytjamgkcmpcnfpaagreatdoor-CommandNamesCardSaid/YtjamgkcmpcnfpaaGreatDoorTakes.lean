/-
  The parser's 'takes': a box alone; a set and a box.
-/
import Derived.Test.YtjamgkcmpcnfpaaGreatDoorSet
import Derived.Test.YtjamgkcmpcnfpaaGreatDoorBox
namespace Go.Proofs.YtjamgkcmpcnfpaaGreatDoor
open Go.RowKit

/-- The line is over. -/
def Done (g : Nat) (kv : Value) (w : World) : Prop := ∃ a c, At g w ⟨#[]⟩ (.slice a 0 c) kv

theorem Done.other {g : Nat} {kv : Value} {w : World} (h : Done g kv w) {p : Addr} (hp : p.block ≠ g) (u : Value) : Done g kv (w.setCell p u) := by
  obtain ⟨a, c, h⟩ := h
  exact ⟨a, c, h.other hp u⟩

theorem Done.of_below {g B : Nat} {kv : Value} {w w' : World} (h : Done g kv w) (hb : Below B w w') (hB : g < B) : Done g kv w' := by
  obtain ⟨a, c, h⟩ := h
  exact ⟨a, c, h.of_below hb hB⟩

theorem space_has (t : ByteArray) (r : List UInt8) (h : t.data.toList = 32 :: r) : t.data.toList = (⟨#[32]⟩ : ByteArray).data.toList ++ r := by rw [h]; rfl

set_option maxHeartbeats 4000000 in
set_option maxRecDepth 100000 in
theorem takes_box (g xb : Nat) (op : Int) (hop : op = 5 ∨ op = 7 ∨ op = 8 ∨ op = 10) (t cl b0 : ByteArray) (r : List UInt8) (rv kv : Value) (w : World) (hA : At g w t rv kv) (ht : t.data.toList = 32 :: r) (hgx : xb ≠ g)
    (h1 : w.cell? ⟨xb, 1, none⟩ = some (.int .i64 op)) (h3 : w.cell? ⟨xb, 3, none⟩ = some (.string b0)) (hf : ∀ j, w.frozen? ⟨xb, j, none⟩ = false)
    (hBox : ∀ w1, At g w1 ⟨r.toArray⟩ rv kv → Kept g w w1 → Calls Tryz.prog 81 #[PP g] w1 fun e w' => e = .returned (.string cl) ∧ Done g kv w' ∧ Kept g w1 w') :
    Calls Tryz.prog 52 #[PP g, .pointer (some ⟨xb, 0, none⟩)] w fun e w' => e = .returned (.tuple #[]) ∧ ∃ w1, w' = w1.setCell ⟨xb, 3, none⟩ (.string cl) ∧ Done g kv w1 ∧ Kept g w w1 := by
  have hE := eat_has g t ⟨#[32]⟩ r rv kv w hA (space_has t r ht)
  have hlt := World.block_lt_of_cell? _ _ h1
  have HE := Lib.hid hE; clear hE
  have HB := Lib.hid hBox; clear hBox
  have Hf := Lib.hid hf; clear hf
  have H3 := Lib.hid h3; clear h3
  clear hA ht
  rcases hop with rfl | rfl | rfl | rfl
  all_goals
    go_enter Tryz.func52, Tryz.ntmps52
    go_wp2_with fail
    refine HE.out.mono ?_
    rintro e w1 ⟨rfl, hA1, hK1⟩
    have h1' := (hK1.cell (p := ⟨xb, 1, none⟩) hlt hgx).trans h1
    go_wp2_with fail
    refine (HB.out w1 hA1 hK1).mono ?_
    rintro e w2 ⟨rfl, hD, hK2⟩
    have hK := hK1.trans hK2
    have h3' := (hK.cell (p := ⟨xb, 3, none⟩) hlt hgx).trans H3.out
    have hf3 := (hK.frozen (p := ⟨xb, 3, none⟩) hlt hgx).trans (Hf.out 3)
    go_wp2_with fail
    first
    | (go_end0; exact ⟨rfl, w2, rfl, hD, hK⟩)
    | (refine bodyPost_ret (results_none rfl _ _ _) rfl ?_; exact ⟨rfl, w2, rfl, hD, hK⟩)

/-- All that was there stands as it was, but for blocks g and x. -/
structure Kept2 (g x : Nat) (w w' : World) : Prop where
  os : w'.os = w.os
  tape : w'.tape = w.tape
  output : w'.output = w.output
  size : w.heap.size ≤ w'.heap.size
  block : ∀ k, k < w.heap.size → k ≠ g → k ≠ x → w'.heap[k]? = w.heap[k]?

theorem Kept2.refl (g x : Nat) (w : World) : Kept2 g x w w := ⟨rfl, rfl, rfl, Nat.le_refl _, fun _ _ _ _ => rfl⟩
theorem Kept.two {g : Nat} {w w' : World} (h : Kept g w w') (x : Nat) : Kept2 g x w w' := ⟨h.os, h.tape, h.output, h.size, fun k hk hg _ => h.block k hk hg⟩
theorem Kept2.trans {g x : Nat} {a b c : World} (h : Kept2 g x a b) (k : Kept2 g x b c) : Kept2 g x a c :=
  ⟨k.os.trans h.os, k.tape.trans h.tape, k.output.trans h.output, Nat.le_trans h.size k.size, fun i hi hg hx => (k.block i (Nat.lt_of_lt_of_le hi h.size) hg hx).trans (h.block i hi hg hx)⟩
theorem Kept2.setx {g x : Nat} {a w : World} (h : Kept2 g x a w) (o : Nat) (u : Value) : Kept2 g x a (w.setCell ⟨x, o, none⟩ u) :=
  ⟨h.os, h.tape, h.output, by simpa [World.setCell] using h.size, fun k hk hg hx => (Below.heap_setCell _ _ _ _ hx).trans (h.block k hk hg hx)⟩
theorem Kept2.cell {g x : Nat} {w w' : World} (h : Kept2 g x w w') {p : Addr} (hp : p.block < w.heap.size) (hg : p.block ≠ g) (hx : p.block ≠ x) : w'.cell? p = w.cell? p := World.cell?_of_block (w := w) (h.block p.block hp hg hx)
theorem Kept2.below {g x B : Nat} {w w' : World} (h : Kept2 g x w w') (hg : B ≤ g) (hx : B ≤ x) (hB : B ≤ w.heap.size) : Below B w w' :=
  ⟨h.os, h.tape, h.output, h.size, fun k hk => h.block k (by omega) (by omega) (by omega)⟩

theorem cells_at {w : World} {x j : Nat} {cs : Array Value} {t : TypeId} {v : Value} (h : w.heap[x]? = some (.cells cs t (0, 0))) (hj : cs[j]? = some v) : w.cell? ⟨x, j, none⟩ = some v := by rw [Lib.cell_of_heap h]; exact hj

/-- 'takes' at a command that takes a box alone. -/
theorem takes_box2 (g xb : Nat) (op : Int) (hop : op = 5 ∨ op = 7 ∨ op = 8 ∨ op = 10) (t cl b0 : ByteArray) (cs : Array Value) (r : List UInt8) (rv kv : Value) (w : World) (hA : At g w t rv kv) (ht : t.data.toList = 32 :: r) (hgx : xb ≠ g)
    (hX : w.heap[xb]? = some (.cells cs 31 (0, 0))) (h1 : cs[1]? = some (.int .i64 op)) (h3 : cs[3]? = some (.string b0))
    (hBox : ∀ w1, At g w1 ⟨r.toArray⟩ rv kv → Kept2 g xb w w1 → Calls Tryz.prog 81 #[PP g] w1 fun e w' => e = .returned (.string cl) ∧ Done g kv w' ∧ Kept g w1 w') :
    Calls Tryz.prog 52 #[PP g, .pointer (some ⟨xb, 0, none⟩)] w fun e w' => e = .returned (.tuple #[]) ∧ w'.heap[xb]? = some (.cells (cs.setIfInBounds 3 (.string cl)) 31 (0, 0)) ∧ Done g kv w' ∧ Kept2 g xb w w' := by
  refine (takes_box g xb op hop t cl b0 r rv kv w hA ht hgx (cells_at hX h1) (cells_at hX h3) (fun j => Lib.frozen_of_heap hX j) (fun w1 hA1 hK1 => hBox w1 hA1 (hK1.two xb))).mono ?_
  rintro e w' ⟨rfl, w1, rfl, hD, hK⟩
  have hlt := (Array.getElem?_eq_some_iff.1 hX).1
  exact ⟨rfl, heap_setCell_same w1 xb 3 cs 31 _ ((hK.block xb hlt hgx).trans hX), hD.other (p := ⟨xb, 3, none⟩) hgx _, (hK.two xb).setx 3 _⟩

set_option maxHeartbeats 4000000 in
set_option maxRecDepth 100000 in
theorem takes_copy (g xb : Nat) (t cl b0 : ByteArray) (s0 : Value) (cs : Array Value) (rs : List (Nat × Nat)) (r r2 : List UInt8) (rv kv : Value) (w : World) (hA : At g w t rv kv) (ht : t.data.toList = 32 :: r) (hgx : xb ≠ g)
    (hX : w.heap[xb]? = some (.cells cs 31 (0, 0))) (h1 : cs[1]? = some (.int .i64 22)) (h3 : cs[3]? = some (.string b0)) (h5 : cs[5]? = some s0)
    (hSet : ∀ w1, At g w1 ⟨r.toArray⟩ rv kv → Kept2 g xb w w1 → Calls Tryz.prog 79 #[PP g] w1 fun e w' => ∃ v, e = .returned v ∧ At g w' ⟨(32 :: r2).toArray⟩ rv kv ∧ Kept g w1 w' ∧ w'.ownsRow w1.heap.size 64 2 v rs.length (rcells rs))
    (hBox : ∀ w1, At g w1 ⟨r2.toArray⟩ rv kv → Kept2 g xb w w1 → Calls Tryz.prog 81 #[PP g] w1 fun e w' => e = .returned (.string cl) ∧ Done g kv w' ∧ Kept g w1 w') :
    Calls Tryz.prog 52 #[PP g, .pointer (some ⟨xb, 0, none⟩)] w fun e w' => ∃ v, e = .returned (.tuple #[]) ∧ w'.heap[xb]? = some (.cells ((cs.setIfInBounds 5 v).setIfInBounds 3 (.string cl)) 31 (0, 0)) ∧ Done g kv w' ∧ Kept2 g xb w w' ∧
      w'.ownsRow w.heap.size 64 2 v rs.length (rcells rs) := by
  have hE := eat_has g t ⟨#[32]⟩ r rv kv w hA (space_has t r ht)
  have hlt := (Array.getElem?_eq_some_iff.1 hX).1
  have Hglt := Lib.hid hA.lt
  have HE := Lib.hid hE; clear hE
  have HB := Lib.hid hBox; clear hBox
  have HS := Lib.hid hSet; clear hSet
  have HX := Lib.hid hX
  have H3 := Lib.hid h3; clear h3
  have H5 := Lib.hid h5; clear h5
  have c1 := cells_at hX h1
  have H1 := Lib.hid h1; clear h1
  clear hA ht hX
  go_enter Tryz.func52, Tryz.ntmps52
  go_wp2_with fail
  refine HE.out.mono ?_
  rintro e w1 ⟨rfl, hA1, hK1⟩
  have X1 := Lib.hid ((hK1.block xb hlt hgx).trans HX.out)
  have c1' := cells_at X1.out H1.out
  go_wp2_with fail
  refine (HS.out w1 hA1 (hK1.two xb)).mono ?_
  rintro e w2 ⟨v, rfl, hA2, hK2, ho⟩
  have X2 := Lib.hid ((hK2.block xb (Nat.lt_of_lt_of_le hlt hK1.size) hgx).trans X1.out)
  have c2 := cells_at X2.out H5.out
  have f2 := Lib.frozen_of_heap X2.out 5
  obtain ⟨A, cp, rfl⟩ : ∃ A cp, v = .slice A rs.length cp := by
    rcases ho.2 with ⟨rfl, h⟩ | ⟨g, cap, cur, hv, _⟩
    · exact ⟨none, 0, by rw [h]⟩
    · exact ⟨_, _, hv⟩
  have Ho := Lib.hid ho; clear ho
  have hxlt2 : xb < w1.heap.size := Nat.lt_of_lt_of_le hlt hK1.size
  go_wp2_with fail
  have hA3 := hA2.other (p := ⟨xb, 5, none⟩) hgx (.slice A rs.length cp)
  refine (eat_has g _ ⟨#[32]⟩ r2 rv kv _ hA3 (space_has _ r2 (by simp))).mono ?_
  rintro e w4 ⟨rfl, hA4, hK4⟩
  have hK24 : Kept2 g xb w w4 := (((hK1.trans hK2).two xb).setx 5 _).trans (hK4.two xb)
  have X4 := Lib.hid ((hK4.block xb (by simp; exact Nat.lt_of_lt_of_le hxlt2 hK2.size) hgx).trans (heap_setCell_same w2 xb 5 cs 31 (.slice A rs.length cp) X2.out))
  go_wp2_with fail
  refine (HB.out w4 hA4 hK24).mono ?_
  rintro e w5 ⟨rfl, hD, hK5⟩
  have hl4 : xb < w4.heap.size := Nat.lt_of_lt_of_le hlt hK24.size
  have X5 := Lib.hid ((hK5.block xb hl4 hgx).trans X4.out)
  have c5 := cells_at (j := 3) X5.out (by rw [Array.getElem?_setIfInBounds]; simp; exact H3.out)
  have f5 := Lib.frozen_of_heap X5.out 3
  go_wp2_with fail
  have fin : (w5.setCell ⟨xb, 3, none⟩ (.string cl)).heap[xb]? = some (.cells ((cs.setIfInBounds 5 (.slice A rs.length cp)).setIfInBounds 3 (.string cl)) 31 (0, 0)) := heap_setCell_same w5 xb 3 _ 31 _ X5.out
  have hoF : (w5.setCell ⟨xb, 3, none⟩ (.string cl)).ownsRow w.heap.size 64 2 (.slice A rs.length cp) rs.length (rcells rs) := by
    refine ownsRow_weaken (ownsRow_same Ho.out (fun k cs' t' fr hk hh => ?_)) hK1.size
    have hk2 := (Array.getElem?_eq_some_iff.1 hh).1
    have hkg : k ≠ g := by have h1 := Hglt.out; have h2 := hK1.size; omega
    have hk4 : k < w4.heap.size := by have := hK4.size; simp at this; omega
    rw [setCell_heap_loop (by simp only []; omega), hK5.block k hk4 hkg, hK4.block k (by simpa using hk2) hkg, setCell_heap_loop (by simp only []; omega)]
  first
  | (go_end0; exact ⟨_, rfl, fin, hD.other (p := ⟨xb, 3, none⟩) hgx _, (hK24.trans (hK5.two xb)).setx 3 _, hoF⟩)
  | (refine bodyPost_ret (results_none rfl _ _ _) rfl ?_; exact ⟨_, rfl, fin, hD.other (p := ⟨xb, 3, none⟩) hgx _, (hK24.trans (hK5.two xb)).setx 3 _, hoF⟩)

end Go.Proofs.YtjamgkcmpcnfpaaGreatDoor

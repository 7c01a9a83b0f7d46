/-
  Parse, at whole lines: a name as an atom, quoted, as a literal; a copy.
-/
import Derived.Test.YtjamgkcmpcnfpaaGreatDoorLines
namespace Go.Proofs.YtjamgkcmpcnfpaaGreatDoor
open Go.RowKit

/-- What is asked of a mailbox' name. -/
structure BoxOk (s : ByteArray) : Prop where
  name : NameOk s
  ne : s.data.toList ≠ []
  atom : allB atomB s.data.toList = true
  quot : allB qB s.data.toList = true

def boxCl (s : ByteArray) : ByteArray := ⟨(cleanL s.data.toList).toArray⟩

theorem stays_true (B : Nat) : Stays B (fun _ _ => True) := fun _ _ _ _ _ => trivial

/-- Parse, at a line of one part. -/
theorem parse_one (b : Nat) (p0 : ByteArray) (w : World) (hs : p0.size ≤ 2000) (hc : w.cell? ⟨b, 0, none⟩ = some (.string p0))
    (C : Array Value → Prop) (hC : ∀ cs, C cs → cs.size = 15 ∧ cs.all (·.oneCell') = true) (R : Array Value → World → Prop) (hS : Stays (w.heap.size + 4) R)
    (hG : Gives p0 (.slice (some ⟨b, 0, none⟩) 0 0) w C R) :
    Calls Tryz.prog 10 #[.slice (some ⟨b, 0, none⟩) 1 1] w fun e w' => ∃ cs, e = .returned (.tuple #[.agg cs, .int .i64 0]) ∧ C cs ∧ Below w.heap.size w w' ∧ R cs w' := by
  refine Parse_ok b 0 1 1 [p0] p0 w rfl (by omega) rfl (Nat.le_refl _) (by omega) (fun j hj => ?_) (fun j hj => ?_) rfl C hC R hS hG
  · obtain rfl : j = 0 := by omega
    exact hc
  · obtain rfl : j = 0 := by omega
    exact hs

theorem parse_atom (B b : Nat) (p0 s : ByteArray) (tag nm : List UInt8) (op : Int) (w : World) (hE : Env B w) (hT : TagOk tag) (hO : OpOk nm op) (hop : op = 5 ∨ op = 7 ∨ op = 8 ∨ op = 10) (hB : BoxOk s)
    (hp : p0.data.toList = tag ++ 32 :: (nm ++ 32 :: s.data.toList)) (hs : p0.size ≤ 2000) (hc : w.cell? ⟨b, 0, none⟩ = some (.string p0)) :
    Calls Tryz.prog 10 #[.slice (some ⟨b, 0, none⟩) 1 1] w fun e w' => e = .returned (.tuple #[.agg (cmdC tag op (boxCl s) (.slice none 0 0)), .int .i64 0]) ∧ Below w.heap.size w w' := by
  have h := parse_one b p0 w hs hc _ (by rintro cs rfl; exact ⟨rfl, by simp [cmdC, Value.oneCell']⟩) _ (stays_true _)
    (gives_box B p0 tag nm s.data.toList op (boxCl s) _ w hE hp hs hT hO hop (fun g w1 hg hA hb => by
      exact box_atom B g s _ 0 _ w1 (hE.step (hb.mono hE.le)) (Nat.le_trans hE.le hg) hA hB.name hB.ne hB.atom))
  refine h.mono ?_
  rintro e w' ⟨cs, rfl, rfl, hb, _⟩
  exact ⟨rfl, hb⟩

theorem parse_quoted (B b : Nat) (p0 s : ByteArray) (tag nm : List UInt8) (op : Int) (w : World) (hE : Env B w) (hT : TagOk tag) (hO : OpOk nm op) (hop : op = 5 ∨ op = 7 ∨ op = 8 ∨ op = 10) (hB : BoxOk s)
    (hp : p0.data.toList = tag ++ 32 :: (nm ++ 32 :: (34 :: (s.data.toList ++ [34])))) (hs : p0.size ≤ 2000) (hc : w.cell? ⟨b, 0, none⟩ = some (.string p0)) :
    Calls Tryz.prog 10 #[.slice (some ⟨b, 0, none⟩) 1 1] w fun e w' => e = .returned (.tuple #[.agg (cmdC tag op (boxCl s) (.slice none 0 0)), .int .i64 0]) ∧ Below w.heap.size w w' := by
  have h := parse_one b p0 w hs hc _ (by rintro cs rfl; exact ⟨rfl, by simp [cmdC, Value.oneCell']⟩) _ (stays_true _)
    (gives_box B p0 tag nm (34 :: (s.data.toList ++ [34])) op (boxCl s) _ w hE hp hs hT hO hop (fun g w1 hg hA hb => by
      exact box_quoted B g s _ _ 0 _ w1 (hE.step (hb.mono hE.le)) (Nat.le_trans hE.le hg) hA (by simp) hB.name hB.quot))
  refine h.mono ?_
  rintro e w' ⟨cs, rfl, rfl, hb, _⟩
  exact ⟨rfl, hb⟩

theorem parse_literal (B b : Nat) (p0 s : ByteArray) (tag nm : List UInt8) (op : Int) (w : World) (hE : Env B w) (hT : TagOk tag) (hO : OpOk nm op) (hop : op = 5 ∨ op = 7 ∨ op = 8 ∨ op = 10) (hB : BoxOk s)
    (hp : p0.data.toList = tag ++ 32 :: (nm ++ 32 :: [])) (hs : p0.size ≤ 2000) (hc : w.cell? ⟨b, 0, none⟩ = some (.string p0)) (hc1 : w.cell? ⟨b, 1, none⟩ = some (.string s)) (hc2 : w.cell? ⟨b, 2, none⟩ = some (.string ⟨#[]⟩)) :
    Calls Tryz.prog 10 #[.slice (some ⟨b, 0, none⟩) 3 3] w fun e w' => e = .returned (.tuple #[.agg (cmdC tag op (boxCl s) (.slice none 0 0)), .int .i64 0]) ∧ Below w.heap.size w w' := by
  have hlt := World.block_lt_of_cell? _ _ hc
  simp only at hlt
  have h40 := hB.name.formed.size
  have hj3 : ∀ j, j < 3 → j = 0 ∨ j = 1 ∨ j = 2 := by omega
  have h := Parse_ok b 0 3 3 [p0, s, ⟨#[]⟩] p0 w rfl (by omega) rfl (Nat.le_refl _) (by omega)
    (by intro j hj
        rcases hj3 j hj with rfl | rfl | rfl
        · exact hc
        · exact hc1
        · exact hc2)
    (by intro j hj
        rcases hj3 j hj with rfl | rfl | rfl
        · exact hs
        · show s.size ≤ 2000; omega
        · exact Nat.zero_le _) rfl _ (by rintro cs rfl; exact ⟨rfl, by simp [cmdC, Value.oneCell']⟩) _ (stays_true _)
    (gives_box B p0 tag nm [] op (boxCl s) _ w hE hp hs hT hO hop (fun g w1 hg hA hb => by
      rw [if_neg (by omega)] at hA
      exact box_literal B g s _ b 1 2 _ w1 (hE.step (hb.mono hE.le)) (Nat.le_trans hE.le hg) hA rfl (Nat.le_refl _) (by omega) ((hb.cell (p := ⟨b, 1, none⟩) hlt).trans hc1) ((hb.cell (p := ⟨b, 2, none⟩) hlt).trans hc2) (by omega) hB.name))
  refine h.mono ?_
  rintro e w' ⟨cs, rfl, rfl, hb, _⟩
  exact ⟨rfl, hb⟩

theorem stays_owns (B e size n : Nat) (xs : List Value) (tag : List UInt8) (cl : ByteArray) : Stays B (fun cs W => ∃ v, cs = cmdC tag 22 cl v ∧ W.ownsRow B e size v n xs) := by
  rintro cs W W' ⟨v, rfl, ho⟩ hk
  exact ⟨v, rfl, ownsRow_same ho (fun k _ _ _ hB _ => hk k hB)⟩

theorem parse_copy (B b : Nat) (p0 s : ByteArray) (tag nm a : List UInt8) (rs : List (Nat × Nat)) (w : World) (hE : Env B w) (hT : TagOk tag) (hO : OpOk nm 22) (hB : BoxOk s)
    (hS : SetOk a rs) (ha : a ≠ []) (haa : allB (atomOr [42]) a = true)
    (hp : p0.data.toList = tag ++ 32 :: (nm ++ 32 :: (a ++ 32 :: s.data.toList))) (hs : p0.size ≤ 2000) (hc : w.cell? ⟨b, 0, none⟩ = some (.string p0)) :
    Calls Tryz.prog 10 #[.slice (some ⟨b, 0, none⟩) 1 1] w fun e w' => ∃ v, e = .returned (.tuple #[.agg (cmdC tag 22 (boxCl s) v), .int .i64 0]) ∧ Below w.heap.size w w' ∧ w'.ownsRow (w.heap.size + 4) 64 2 v rs.length (rcells rs) := by
  obtain ⟨m, hm⟩ := hE.m
  have hra : (⟨(a ++ 32 :: s.data.toList).toArray⟩ : ByteArray).size ≤ 9223372036854775807 := by rw [size_bytes, hp] at hs; rw [size_bytes]; simp at hs ⊢; omega
  have h := parse_one b p0 w hs hc _ (by rintro cs ⟨A, n, c, rfl⟩; exact ⟨rfl, by simp [cmdC, Value.oneCell']⟩) _ (stays_owns (w.heap.size + 4) 64 2 _ _ tag (boxCl s))
    (gives_copy B p0 tag nm (a ++ 32 :: s.data.toList) s.data.toList rs (boxCl s) _ w hE hp hs hT hO (fun g w1 hg hA hb => by
      exact set_any g _ a (32 :: s.data.toList) rs _ _ m w1 hA (by simp) hra ha haa rfl hS ((hb.cell (p := ⟨4, 0, none⟩) (by have := hE.four; have := hE.le; show 4 < _; omega)).trans hm) (by have := hE.four; have := hE.le; omega))
      (fun g w1 hg hA hb => by
      exact box_atom B g s _ 0 _ w1 (hE.step (hb.mono hE.le)) (Nat.le_trans hE.le hg) hA hB.name hB.ne hB.atom))
  refine h.mono ?_
  rintro e w' ⟨cs, rfl, _, hb, v, rfl, ho⟩
  exact ⟨v, rfl, hb, ho⟩

end Go.Proofs.YtjamgkcmpcnfpaaGreatDoor

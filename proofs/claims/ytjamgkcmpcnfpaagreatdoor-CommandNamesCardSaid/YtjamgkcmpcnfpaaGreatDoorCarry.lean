/-
  What is carried from world to world; the rows of ranges.
-/
import Derived.Test.YtjamgkcmpcnfpaaGreatDoorSetLaw
import Derived.Test.YtjamgkcmpcnfpaaGreatDoorAlive
namespace Go.Proofs.YtjamgkcmpcnfpaaGreatDoor
open Go.RowKit

theorem lt_of_some {w : World} {k : Nat} {c : Obj} (h : w.heap[k]? = some c) : k < w.heap.size := (Array.getElem?_eq_some_iff.1 h).1

theorem carry {V w : World} {x c : Obj} {k : Nat} (hb : Below (V.alloc x).heap.size (V.alloc x) w) (h : V.heap[k]? = some c) : w.heap[k]? = some c :=
  (hb.block k (by rw [World.size_alloc]; have := lt_of_some h; omega)).trans ((heap_alloc_lt _ _ _ (lt_of_some h)).trans h)

theorem carry2 {V w : World} {c : Obj} {k : Nat} (hb : Below V.heap.size V w) (h : V.heap[k]? = some c) : w.heap[k]? = some c := (hb.block k (lt_of_some h)).trans h

theorem rcells_at : ∀ (rs : List (Nat × Nat)) (i : Nat), i < rs.length → (rcells rs)[i * 2]? = some (.int .i64 (rs.getD i (0, 0)).1) ∧ (rcells rs)[i * 2 + 1]? = some (.int .i64 (rs.getD i (0, 0)).2)
  | [], i, h => by simp at h
  | (a, b) :: r, 0, _ => ⟨rfl, rfl⟩
  | (a, b) :: r, i + 1, h => by
    have ih := rcells_at r i (by simpa using h)
    rw [show (i + 1) * 2 = i * 2 + 1 + 1 by omega]
    simpa [rcells] using ih

theorem row_of_owns {w : World} {base : Nat} {v : Value} {rs : List (Nat × Nat)} (h : w.ownsRow base 64 2 v rs.length (rcells rs)) (hne : 1 ≤ rs.length) :
    ∃ g cap, v = .slice (some ⟨g, 0, none⟩) rs.length cap ∧ base ≤ g ∧ g < w.heap.size ∧ RowAt w g 0 rs.length rs := by
  rcases h.2 with ⟨_, h0⟩ | ⟨g, cap, cur, hv, hg, hh, hc, _, hs, hx⟩
  · omega
  · refine ⟨g, cap, hv, hg, lt_of_some hh, fun i hi => ?_⟩
    obtain ⟨h1, h2⟩ := rcells_at rs i hi
    rw [← hx] at h1 h2
    rw [List.getElem?_take_of_lt (by omega)] at h1 h2
    rw [Nat.zero_add]
    exact ⟨cells_at hh (by simpa using h1), cells_at hh (by simpa using h2)⟩

theorem RowAt.below {w w' : World} {b o n B : Nat} {rs : List (Nat × Nat)} (h : RowAt w b o n rs) (hb : Below B w w') (hB : b < B) : RowAt w' b o n rs := fun i hi =>
  ⟨(hb.cell (p := ⟨b, o + i * 2, none⟩) hB).trans (h i hi).1, (hb.cell (p := ⟨b, o + i * 2 + 1, none⟩) hB).trans (h i hi).2⟩

theorem row_of_pairs {w : World} {b o n : Nat} {ps : List (Int × Int)} (h : PairsAt w b o n ps) (hR : RightP n ps) : RowAt w b o n (rsOf n ps) := by
  intro i hi
  obtain ⟨⟨a1, _⟩, b1, _⟩ := hR.2.2 i hi
  have hat : (rsOf n ps).getD i (0, 0) = ((ps.getD i (0, 0)).1.toNat, (ps.getD i (0, 0)).2.toNat) := by
    rw [List.getD_eq_getElem?_getD, rsOf_at n ps i hi, Option.getD_some]
  rw [hat]
  obtain ⟨h1, h2⟩ := h i hi
  rw [h1, h2]
  simp only
  rw [Int.toNat_of_nonneg a1, Int.toNat_of_nonneg b1]
  exact ⟨rfl, rfl⟩

end Go.Proofs.YtjamgkcmpcnfpaaGreatDoor

/-
  What rows of numbers, of strings, of ranges hold; whether two hold the same.
  The program's and the document's looks at two rows of numbers, of strings, of ranges.
  The cursor's 'none'; moves that may put keys, one behind another.
  The cursor's 'together', out of the contract of 'key' at its depth.
-/
import Derived.Test.YtjamgkcmpcnfpaaGreatDoorS13
import Derived.Test.YtjamgkcmpcnfpaaGreatDoorS12
set_option linter.unusedVariables false
set_option linter.unusedSimpArgs false

namespace Go.Proofs.YtjamgkcmpcnfpaaGreatDoor
open Go.RowKit

/-- What a row holds. -/
structure RowD (α : Type) where
  n : Nat
  f : Nat → α

/-- Two rows hold the same. -/
def RowD.Eqv {α : Type} (E : α → α → Prop) (a b : RowD α) : Prop := a.n = b.n ∧ ∀ i, i < a.n → E (a.f i) (b.f i)

/-- A row holds that. -/
def IsRow {α : Type} (W : World) (sz : Nat) (M : World → List Value → α → Prop) (v : Value) (d : RowD α) : Prop :=
  d.n ≤ 100000 ∧ ∃ A C, v = .slice A d.n C ∧ ∀ i, i < d.n → ∃ g x, A = some ⟨g, 0, none⟩ ∧ g < W.heap.size ∧ M W x (d.f i) ∧ ∀ (j : Nat) (u : Value), x[j]? = some u → W.cell? ⟨g, i * sz + j, none⟩ = some u

def MInt (_ : World) (x : List Value) (d : Int) : Prop := x = [.int .i64 d]
def MStr (_ : World) (x : List Value) (d : ByteArray) : Prop := x = [.string d]
def MTwo (_ : World) (x : List Value) (d : Int × Int) : Prop := x = [.int .i64 d.1, .int .i64 d.2]

theorem IsRow.below {α : Type} {W W' : World} {sz : Nat} {M : World → List Value → α → Prop} {v : Value} {d : RowD α} (h : IsRow W sz M v d) (hb : Below W.heap.size W W') (hM : ∀ x y, M W x y → M W' x y) : IsRow W' sz M v d := by
  obtain ⟨hn, A, C, hv, hi⟩ := h
  refine ⟨hn, A, C, hv, fun i hlt => ?_⟩
  obtain ⟨g, x, hA, hg, hx, hc⟩ := hi i hlt
  exact ⟨g, x, hA, Nat.lt_of_lt_of_le hg hb.size, hM _ _ hx, fun j u hu => (hb.cell (p := ⟨g, i * sz + j, none⟩) hg).trans (hc j u hu)⟩

/-- A row that was made by appending holds something. -/
theorem Rowed.is {α : Type} [Inhabited α] {B : Nat} {e : TypeId} {sz : Nat} {Ok : List Value → Prop} {v : Value} {n : Nat} {W : World} {M : World → List Value → α → Prop} (h : Rowed B e sz Ok v n W) (hn : n ≤ 100000) (hO : ∀ x, Ok x → ∃ d, M W x d) : ∃ d : RowD α, IsRow W sz M v d := by
  by_cases h0 : 0 < n
  · obtain ⟨g, cap, rfl, _, hg, _, hel⟩ := h.at_ h0
    have hc : ∀ i : Nat, ∃ y : α, i < n → ∃ x, M W x y ∧ ∀ (j : Nat) (u : Value), x[j]? = some u → W.cell? ⟨g, i * sz + j, none⟩ = some u := fun i => by
      by_cases hi : i < n
      · obtain ⟨x, hx, _, hc⟩ := hel i hi
        obtain ⟨y, hy⟩ := hO x hx
        exact ⟨y, fun _ => ⟨x, hy, hc⟩⟩
      · exact ⟨default, fun hlt => absurd hlt hi⟩
    obtain ⟨f, hf⟩ := Classical.axiomOfChoice hc
    refine ⟨⟨n, f⟩, hn, _, _, rfl, fun i hi => ?_⟩
    obtain ⟨x, hx, hc⟩ := hf i hi
    exact ⟨g, x, rfl, hg, hx, hc⟩
  · have : n = 0 := by omega
    subst this
    refine ⟨⟨0, fun _ => default⟩, hn, ?_⟩
    rcases h.slice with ⟨rfl, _⟩ | ⟨g, c, rfl⟩
    · exact ⟨_, _, rfl, fun i hi => absurd hi (by simp)⟩
    · exact ⟨_, _, rfl, fun i hi => absurd hi (by simp)⟩

/-- A truth value is returned, of a proposition; what was there stands. -/
def EqP (P : Prop) (w : World) (e : Ending) (w' : World) : Prop := ∃ r : Bool, e = .returned (.bool r) ∧ (r = true ↔ P) ∧ Below w.heap.size w w'

theorem EqP.yes {P : Prop} {w w' : World} (h : P) (hb : Below w.heap.size w w') : EqP P w (.returned (.bool true)) w' := ⟨true, rfl, ⟨fun _ => h, fun _ => rfl⟩, hb⟩
theorem EqP.no {P : Prop} {w w' : World} (h : ¬P) (hb : Below w.heap.size w w') : EqP P w (.returned (.bool false)) w' := ⟨false, rfl, ⟨(fun h' => by cases h'), fun h' => absurd h' h⟩, hb⟩

theorem below_drewN (w : World) (m : Nat) : Below w.heap.size w (w.drewN m) := ⟨rfl, rfl, rfl, Nat.le_refl _, fun _ _ => rfl⟩

theorem bytes_eq (s t : ByteArray) : (s.toList == t.toList) = true ↔ s = t := by
  rw [beq_iff_eq, Lib.toList_data, Lib.toList_data]
  exact ⟨fun h => by cases s; cases t; simp only [ByteArray.mk.injEq] at *; exact Array.toList_inj.1 h, fun h => by rw [h]⟩

end Go.Proofs.YtjamgkcmpcnfpaaGreatDoor

namespace Go.Proofs.YtjamgkcmpcnfpaaGreatDoor
open Go.RowKit

/-- What holds ahead of a round. -/
def EqR {α : Type} (d1 d2 : RowD α) (w : World) (x : Value) (wr : World) : Prop :=
  ∃ k : Nat, k ≤ d1.n ∧ (∀ j, j < k → d1.f j = d2.f j) ∧ x = .int .i64 k ∧ ∃ m, wr = w.drewN m

set_option maxHeartbeats 4000000 in
theorem same_16 (v1 v2 : Value) (d1 d2 : RowD (Int × Int)) (w : World) (h1 : IsRow w 2 MTwo v1 d1) (h2 : IsRow w 2 MTwo v2 d2) : Calls Tryz.prog 16 #[v1, v2] w (EqP (RowD.Eqv Eq d1 d2) w) := by
  obtain ⟨hn1, A1, C1, rfl, h1⟩ := h1
  obtain ⟨hn2, A2, C2, rfl, h2⟩ := h2
  have H1 := Lib.hid h1
  have H2 := Lib.hid h2
  clear h1 h2
  have hu64 := Tryz.underlying64
  have heq := range_eq
  by_cases hnn : d1.n = d2.n
  · have hn' : ((d1.n : Int) != (d2.n : Int)) = false := by simp [hnn]
    have Hnn := Lib.hid hnn
    clear hnn
    go_enter Tryz.func16, Tryz.ntmps16
    go_wp2_with fail
    go_loopw [5] (fun x wr => EqR d1 d2 w x wr) (fun x _ => d1.n - (intOf x).toNat)
    case atStart => exact ⟨0, by omega, fun j hj => absurd hj (by omega), rfl, 0, rfl⟩
    case round =>
      obtain ⟨k, hk, hall, rfl, m, rfl⟩ := hrel
      have Hall := Lib.hid hall
      have hnn := Hnn.out
      clear hall
      by_cases hlt : k < d1.n
      · have hlt2 : k < d2.n := by omega
        clear hnn
        obtain ⟨g1, xs1, rfl, hg1, rfl, hc1⟩ := H1.out k hlt
        obtain ⟨g2, xs2, rfl, hg2, rfl, hc2⟩ := H2.out k (by omega)
        have p0 := hc1 0 _ rfl
        have p1 := hc1 1 _ rfl
        have q0 := hc2 0 _ rfl
        have q1 := hc2 1 _ rfl
        rw [Nat.add_zero] at p0 q0
        clear hc1 hc2
        obtain ⟨⟨x0, x1⟩, hx⟩ : ∃ p : Int × Int, p = d1.f k := ⟨_, rfl⟩
        obtain ⟨⟨y0, y1⟩, hy⟩ : ∃ p : Int × Int, p = d2.f k := ⟨_, rfl⟩
        rw [← hx] at p0 p1
        rw [← hy] at q0 q1
        simp only [] at p0 p1 q0 q1
        by_cases e : x0 = y0 ∧ x1 = y1
        · obtain ⟨rfl, rfl⟩ := e
          have he := Lib.hid (hx.symm.trans hy)
          clear hx hy
          go_wp2_with fail
          go_quiet (fail)
          go_wp2_with fail
          go_roundw
          case rel => exact ⟨k + 1, by omega, fun j hj => by
            by_cases ej : j = k
            · subst ej; exact he.out
            · exact Hall.out j (by omega), by go_num, _, rfl⟩
          case measure => simp [intOf]; omega
        · skip
          have e' : (x0 == y0 && (x1 == y1)) = false := by
            rw [Bool.eq_false_iff]
            intro hh
            simp only [Bool.and_eq_true, beq_iff_eq] at hh
            exact e hh
          have he : d1.f k ≠ d2.f k := fun hh => e (by rw [← hx, ← hy] at hh; injection hh with h1 h2; exact ⟨h1, h2⟩)
          have HE := Lib.hid he
          clear hx hy e he
          go_wp2_with fail
          go_quiet (fail)
          go_wp2_with fail
          go_ret
          exact EqP.no (fun h => HE.out (h.2 k hlt)) ⟨rfl, rfl, rfl, Nat.le_refl _, fun _ _ => rfl⟩
      · clear hnn
        go_wp2_with fail
        go_ret
        exact EqP.yes ⟨Hnn.out, fun i hi => Hall.out i (by omega)⟩ (below_drewN w _)
  · have hn' : ((d1.n : Int) != (d2.n : Int)) = true := by simp; omega
    go_enter Tryz.func16, Tryz.ntmps16
    go_wp2_with fail
    go_ret
    exact EqP.no (fun h => hnn h.1) (Below.refl _ w)

set_option maxHeartbeats 4000000 in
theorem same_44 (v1 v2 : Value) (d1 d2 : RowD (Int × Int)) (w : World) (h1 : IsRow w 2 MTwo v1 d1) (h2 : IsRow w 2 MTwo v2 d2) : Calls Tryz.prog 44 #[v1, v2] w (EqP (RowD.Eqv Eq d1 d2) w) := by
  obtain ⟨hn1, A1, C1, rfl, h1⟩ := h1
  obtain ⟨hn2, A2, C2, rfl, h2⟩ := h2
  have H1 := Lib.hid h1
  have H2 := Lib.hid h2
  clear h1 h2
  have hu64 := Tryz.underlying64
  have heq := range_eq
  by_cases hnn : d1.n = d2.n
  · have hn' : ((d1.n : Int) != (d2.n : Int)) = false := by simp [hnn]
    have Hnn := Lib.hid hnn
    clear hnn
    go_enter Tryz.func44, Tryz.ntmps44
    go_wp2_with fail
    go_loopw [13] (fun x wr => EqR d1 d2 w x wr) (fun x _ => d1.n - (intOf x).toNat)
    case atStart => exact ⟨0, by omega, fun j hj => absurd hj (by omega), rfl, 0, rfl⟩
    case round =>
      obtain ⟨k, hk, hall, rfl, m, rfl⟩ := hrel
      have Hall := Lib.hid hall
      have hnn := Hnn.out
      clear hall
      by_cases hlt : k < d1.n
      · have hlt2 : k < d2.n := by omega
        clear hnn
        obtain ⟨g1, xs1, rfl, hg1, rfl, hc1⟩ := H1.out k hlt
        obtain ⟨g2, xs2, rfl, hg2, rfl, hc2⟩ := H2.out k (by omega)
        have p0 := hc1 0 _ rfl
        have p1 := hc1 1 _ rfl
        have q0 := hc2 0 _ rfl
        have q1 := hc2 1 _ rfl
        rw [Nat.add_zero] at p0 q0
        clear hc1 hc2
        obtain ⟨⟨x0, x1⟩, hx⟩ : ∃ p : Int × Int, p = d1.f k := ⟨_, rfl⟩
        obtain ⟨⟨y0, y1⟩, hy⟩ : ∃ p : Int × Int, p = d2.f k := ⟨_, rfl⟩
        rw [← hx] at p0 p1
        rw [← hy] at q0 q1
        simp only [] at p0 p1 q0 q1
        by_cases e : x0 = y0 ∧ x1 = y1
        · obtain ⟨rfl, rfl⟩ := e
          have he := Lib.hid (hx.symm.trans hy)
          clear hx hy
          go_wp2_with fail
          go_quiet (fail)
          go_wp2_with fail
          go_roundw
          case rel => exact ⟨k + 1, by omega, fun j hj => by
            by_cases ej : j = k
            · subst ej; exact he.out
            · exact Hall.out j (by omega), by go_num, _, rfl⟩
          case measure => simp [intOf]; omega
        · skip
          have e' : (x0 == y0 && (x1 == y1)) = false := by
            rw [Bool.eq_false_iff]
            intro hh
            simp only [Bool.and_eq_true, beq_iff_eq] at hh
            exact e hh
          have he : d1.f k ≠ d2.f k := fun hh => e (by rw [← hx, ← hy] at hh; injection hh with h1 h2; exact ⟨h1, h2⟩)
          have HE := Lib.hid he
          clear hx hy e he
          go_wp2_with fail
          go_quiet (fail)
          go_wp2_with fail
          go_ret
          exact EqP.no (fun h => HE.out (h.2 k hlt)) ⟨rfl, rfl, rfl, Nat.le_refl _, fun _ _ => rfl⟩
      · clear hnn
        go_wp2_with fail
        go_ret
        exact EqP.yes ⟨Hnn.out, fun i hi => Hall.out i (by omega)⟩ (below_drewN w _)
  · have hn' : ((d1.n : Int) != (d2.n : Int)) = true := by simp; omega
    go_enter Tryz.func44, Tryz.ntmps44
    go_wp2_with fail
    go_ret
    exact EqP.no (fun h => hnn h.1) (Below.refl _ w)

set_option maxHeartbeats 4000000 in
theorem same_25 (v1 v2 : Value) (d1 d2 : RowD (Int)) (w : World) (h1 : IsRow w 1 MInt v1 d1) (h2 : IsRow w 1 MInt v2 d2) : Calls Tryz.prog 25 #[v1, v2] w (EqP (RowD.Eqv Eq d1 d2) w) := by
  obtain ⟨hn1, A1, C1, rfl, h1⟩ := h1
  obtain ⟨hn2, A2, C2, rfl, h2⟩ := h2
  have H1 := Lib.hid h1
  have H2 := Lib.hid h2
  clear h1 h2
  skip
  skip
  by_cases hnn : d1.n = d2.n
  · have hn' : ((d1.n : Int) != (d2.n : Int)) = false := by simp [hnn]
    have Hnn := Lib.hid hnn
    clear hnn
    go_enter Tryz.func25, Tryz.ntmps25
    go_wp2_with fail
    go_loopw [5] (fun x wr => EqR d1 d2 w x wr) (fun x _ => d1.n - (intOf x).toNat)
    case atStart => exact ⟨0, by omega, fun j hj => absurd hj (by omega), rfl, 0, rfl⟩
    case round =>
      obtain ⟨k, hk, hall, rfl, m, rfl⟩ := hrel
      have Hall := Lib.hid hall
      have hnn := Hnn.out
      clear hall
      by_cases hlt : k < d1.n
      · have hlt2 : k < d2.n := by omega
        clear hnn
        obtain ⟨g1, xs1, rfl, hg1, rfl, hc1⟩ := H1.out k hlt
        obtain ⟨g2, xs2, rfl, hg2, rfl, hc2⟩ := H2.out k (by omega)
        have p0 := hc1 0 _ rfl
        have q0 := hc2 0 _ rfl
        rw [Nat.mul_one, Nat.add_zero] at p0 q0
        clear hc1 hc2
        obtain ⟨x0, hx⟩ : ∃ p : Int, p = d1.f k := ⟨_, rfl⟩
        obtain ⟨y0, hy⟩ : ∃ p : Int, p = d2.f k := ⟨_, rfl⟩
        rw [← hx] at p0
        rw [← hy] at q0
        by_cases e : x0 = y0
        · subst e
          have he := Lib.hid (hx.symm.trans hy)
          clear hx hy
          go_wp2_with fail
          go_quiet (fail)
          go_wp2_with fail
          go_roundw
          case rel => exact ⟨k + 1, by omega, fun j hj => by
            by_cases ej : j = k
            · subst ej; exact he.out
            · exact Hall.out j (by omega), by go_num, _, rfl⟩
          case measure => simp [intOf]; omega
        · skip
          have e' : (x0 == y0) = false := by simpa using e
          have HE := Lib.hid (show d1.f k ≠ d2.f k from fun hh => e (by rw [hx, hy]; exact hh))
          clear hx hy e
          go_wp2_with fail
          go_quiet (fail)
          go_wp2_with fail
          go_ret
          exact EqP.no (fun h => HE.out (h.2 k hlt)) ⟨rfl, rfl, rfl, Nat.le_refl _, fun _ _ => rfl⟩
      · clear hnn
        go_wp2_with fail
        go_ret
        exact EqP.yes ⟨Hnn.out, fun i hi => Hall.out i (by omega)⟩ (below_drewN w _)
  · have hn' : ((d1.n : Int) != (d2.n : Int)) = true := by simp; omega
    go_enter Tryz.func25, Tryz.ntmps25
    go_wp2_with fail
    go_ret
    exact EqP.no (fun h => hnn h.1) (Below.refl _ w)

set_option maxHeartbeats 4000000 in
theorem same_45 (v1 v2 : Value) (d1 d2 : RowD (Int)) (w : World) (h1 : IsRow w 1 MInt v1 d1) (h2 : IsRow w 1 MInt v2 d2) : Calls Tryz.prog 45 #[v1, v2] w (EqP (RowD.Eqv Eq d1 d2) w) := by
  obtain ⟨hn1, A1, C1, rfl, h1⟩ := h1
  obtain ⟨hn2, A2, C2, rfl, h2⟩ := h2
  have H1 := Lib.hid h1
  have H2 := Lib.hid h2
  clear h1 h2
  skip
  skip
  by_cases hnn : d1.n = d2.n
  · have hn' : ((d1.n : Int) != (d2.n : Int)) = false := by simp [hnn]
    have Hnn := Lib.hid hnn
    clear hnn
    go_enter Tryz.func45, Tryz.ntmps45
    go_wp2_with fail
    go_loopw [13] (fun x wr => EqR d1 d2 w x wr) (fun x _ => d1.n - (intOf x).toNat)
    case atStart => exact ⟨0, by omega, fun j hj => absurd hj (by omega), rfl, 0, rfl⟩
    case round =>
      obtain ⟨k, hk, hall, rfl, m, rfl⟩ := hrel
      have Hall := Lib.hid hall
      have hnn := Hnn.out
      clear hall
      by_cases hlt : k < d1.n
      · have hlt2 : k < d2.n := by omega
        clear hnn
        obtain ⟨g1, xs1, rfl, hg1, rfl, hc1⟩ := H1.out k hlt
        obtain ⟨g2, xs2, rfl, hg2, rfl, hc2⟩ := H2.out k (by omega)
        have p0 := hc1 0 _ rfl
        have q0 := hc2 0 _ rfl
        rw [Nat.mul_one, Nat.add_zero] at p0 q0
        clear hc1 hc2
        obtain ⟨x0, hx⟩ : ∃ p : Int, p = d1.f k := ⟨_, rfl⟩
        obtain ⟨y0, hy⟩ : ∃ p : Int, p = d2.f k := ⟨_, rfl⟩
        rw [← hx] at p0
        rw [← hy] at q0
        by_cases e : x0 = y0
        · subst e
          have he := Lib.hid (hx.symm.trans hy)
          clear hx hy
          go_wp2_with fail
          go_quiet (fail)
          go_wp2_with fail
          go_roundw
          case rel => exact ⟨k + 1, by omega, fun j hj => by
            by_cases ej : j = k
            · subst ej; exact he.out
            · exact Hall.out j (by omega), by go_num, _, rfl⟩
          case measure => simp [intOf]; omega
        · skip
          have e' : (x0 == y0) = false := by simpa using e
          have HE := Lib.hid (show d1.f k ≠ d2.f k from fun hh => e (by rw [hx, hy]; exact hh))
          clear hx hy e
          go_wp2_with fail
          go_quiet (fail)
          go_wp2_with fail
          go_ret
          exact EqP.no (fun h => HE.out (h.2 k hlt)) ⟨rfl, rfl, rfl, Nat.le_refl _, fun _ _ => rfl⟩
      · clear hnn
        go_wp2_with fail
        go_ret
        exact EqP.yes ⟨Hnn.out, fun i hi => Hall.out i (by omega)⟩ (below_drewN w _)
  · have hn' : ((d1.n : Int) != (d2.n : Int)) = true := by simp; omega
    go_enter Tryz.func45, Tryz.ntmps45
    go_wp2_with fail
    go_ret
    exact EqP.no (fun h => hnn h.1) (Below.refl _ w)

set_option maxHeartbeats 4000000 in
theorem same_54 (v1 v2 : Value) (d1 d2 : RowD (ByteArray)) (w : World) (h1 : IsRow w 1 MStr v1 d1) (h2 : IsRow w 1 MStr v2 d2) : Calls Tryz.prog 54 #[v1, v2] w (EqP (RowD.Eqv Eq d1 d2) w) := by
  obtain ⟨hn1, A1, C1, rfl, h1⟩ := h1
  obtain ⟨hn2, A2, C2, rfl, h2⟩ := h2
  have H1 := Lib.hid h1
  have H2 := Lib.hid h2
  clear h1 h2
  skip
  skip
  by_cases hnn : d1.n = d2.n
  · have hn' : ((d1.n : Int) != (d2.n : Int)) = false := by simp [hnn]
    have Hnn := Lib.hid hnn
    clear hnn
    go_enter Tryz.func54, Tryz.ntmps54
    go_wp2_with fail
    go_loopw [5] (fun x wr => EqR d1 d2 w x wr) (fun x _ => d1.n - (intOf x).toNat)
    case atStart => exact ⟨0, by omega, fun j hj => absurd hj (by omega), rfl, 0, rfl⟩
    case round =>
      obtain ⟨k, hk, hall, rfl, m, rfl⟩ := hrel
      have Hall := Lib.hid hall
      have hnn := Hnn.out
      clear hall
      by_cases hlt : k < d1.n
      · have hlt2 : k < d2.n := by omega
        clear hnn
        obtain ⟨g1, xs1, rfl, hg1, rfl, hc1⟩ := H1.out k hlt
        obtain ⟨g2, xs2, rfl, hg2, rfl, hc2⟩ := H2.out k (by omega)
        have p0 := hc1 0 _ rfl
        have q0 := hc2 0 _ rfl
        rw [Nat.mul_one, Nat.add_zero] at p0 q0
        clear hc1 hc2
        obtain ⟨x0, hx⟩ : ∃ p : ByteArray, p = d1.f k := ⟨_, rfl⟩
        obtain ⟨y0, hy⟩ : ∃ p : ByteArray, p = d2.f k := ⟨_, rfl⟩
        rw [← hx] at p0
        rw [← hy] at q0
        by_cases e : x0 = y0
        · subst e
          have he := Lib.hid (hx.symm.trans hy)
          clear hx hy
          go_wp2_with fail
          go_quiet (fail)
          go_wp2_with fail
          go_roundw
          case rel => exact ⟨k + 1, by omega, fun j hj => by
            by_cases ej : j = k
            · subst ej; exact he.out
            · exact Hall.out j (by omega), by go_num, _, rfl⟩
          case measure => simp [intOf]; omega
        · skip
          have e' : (x0.toList == y0.toList) = false := by rw [Bool.eq_false_iff]; exact fun hh => e ((bytes_eq _ _).1 hh)
          have HE := Lib.hid (show d1.f k ≠ d2.f k from fun hh => e (by rw [hx, hy]; exact hh))
          clear hx hy e
          go_wp2_with fail
          go_quiet (fail)
          go_wp2_with fail
          go_ret
          exact EqP.no (fun h => HE.out (h.2 k hlt)) ⟨rfl, rfl, rfl, Nat.le_refl _, fun _ _ => rfl⟩
      · clear hnn
        go_wp2_with fail
        go_ret
        exact EqP.yes ⟨Hnn.out, fun i hi => Hall.out i (by omega)⟩ (below_drewN w _)
  · have hn' : ((d1.n : Int) != (d2.n : Int)) = true := by simp; omega
    go_enter Tryz.func54, Tryz.ntmps54
    go_wp2_with fail
    go_ret
    exact EqP.no (fun h => hnn h.1) (Below.refl _ w)

set_option maxHeartbeats 4000000 in
theorem same_74 (v1 v2 : Value) (d1 d2 : RowD (ByteArray)) (w : World) (h1 : IsRow w 1 MStr v1 d1) (h2 : IsRow w 1 MStr v2 d2) : Calls Tryz.prog 74 #[v1, v2] w (EqP (RowD.Eqv Eq d1 d2) w) := by
  obtain ⟨hn1, A1, C1, rfl, h1⟩ := h1
  obtain ⟨hn2, A2, C2, rfl, h2⟩ := h2
  have H1 := Lib.hid h1
  have H2 := Lib.hid h2
  clear h1 h2
  skip
  skip
  by_cases hnn : d1.n = d2.n
  · have hn' : ((d1.n : Int) != (d2.n : Int)) = false := by simp [hnn]
    have Hnn := Lib.hid hnn
    clear hnn
    go_enter Tryz.func74, Tryz.ntmps74
    go_wp2_with fail
    go_loopw [13] (fun x wr => EqR d1 d2 w x wr) (fun x _ => d1.n - (intOf x).toNat)
    case atStart => exact ⟨0, by omega, fun j hj => absurd hj (by omega), rfl, 0, rfl⟩
    case round =>
      obtain ⟨k, hk, hall, rfl, m, rfl⟩ := hrel
      have Hall := Lib.hid hall
      have hnn := Hnn.out
      clear hall
      by_cases hlt : k < d1.n
      · have hlt2 : k < d2.n := by omega
        clear hnn
        obtain ⟨g1, xs1, rfl, hg1, rfl, hc1⟩ := H1.out k hlt
        obtain ⟨g2, xs2, rfl, hg2, rfl, hc2⟩ := H2.out k (by omega)
        have p0 := hc1 0 _ rfl
        have q0 := hc2 0 _ rfl
        rw [Nat.mul_one, Nat.add_zero] at p0 q0
        clear hc1 hc2
        obtain ⟨x0, hx⟩ : ∃ p : ByteArray, p = d1.f k := ⟨_, rfl⟩
        obtain ⟨y0, hy⟩ : ∃ p : ByteArray, p = d2.f k := ⟨_, rfl⟩
        rw [← hx] at p0
        rw [← hy] at q0
        by_cases e : x0 = y0
        · subst e
          have he := Lib.hid (hx.symm.trans hy)
          clear hx hy
          go_wp2_with fail
          go_quiet (fail)
          go_wp2_with fail
          go_roundw
          case rel => exact ⟨k + 1, by omega, fun j hj => by
            by_cases ej : j = k
            · subst ej; exact he.out
            · exact Hall.out j (by omega), by go_num, _, rfl⟩
          case measure => simp [intOf]; omega
        · skip
          have e' : (x0.toList == y0.toList) = false := by rw [Bool.eq_false_iff]; exact fun hh => e ((bytes_eq _ _).1 hh)
          have HE := Lib.hid (show d1.f k ≠ d2.f k from fun hh => e (by rw [hx, hy]; exact hh))
          clear hx hy e
          go_wp2_with fail
          go_quiet (fail)
          go_wp2_with fail
          go_ret
          exact EqP.no (fun h => HE.out (h.2 k hlt)) ⟨rfl, rfl, rfl, Nat.le_refl _, fun _ _ => rfl⟩
      · clear hnn
        go_wp2_with fail
        go_ret
        exact EqP.yes ⟨Hnn.out, fun i hi => Hall.out i (by omega)⟩ (below_drewN w _)
  · have hn' : ((d1.n : Int) != (d2.n : Int)) = true := by simp; omega
    go_enter Tryz.func74, Tryz.ntmps74
    go_wp2_with fail
    go_ret
    exact EqP.no (fun h => hnn h.1) (Below.refl _ w)

end Go.Proofs.YtjamgkcmpcnfpaaGreatDoor

namespace Go.Proofs.YtjamgkcmpcnfpaaGreatDoor
open Go.RowKit

theorem KMoves.step {g : Nat} {S : Src} {r r' : Nat} {bad bad' : Bool} {w w1 w' : World} (h : KMoves g S r' bad' w1 w') (hK : KKept g w w1) (hr : r' ≤ r) (hb : bad = true → bad' = true) : KMoves g S r bad w w' := by
  obtain ⟨i, a, b, kv, hC, hk, hK', hl, hb'⟩ := h
  exact ⟨i, a, b, kv, hC, hk, hK.trans hK', Nat.le_trans hl hr, fun h => hb' (hb h)⟩

theorem KInt.step {g : Nat} {S : Src} {r r' : Nat} {bad bad' : Bool} {w w1 w' : World} {e : Ending} (h : KInt g S r' bad' w1 e w') (hK : KKept g w w1) (hr : r' ≤ r) (hb : bad = true → bad' = true) : KInt g S r bad w e w' := by
  obtain ⟨n, rfl, hM⟩ := h
  exact ⟨n, rfl, hM.step hK hr hb⟩

/-- A key without a set is put. -/
theorem put_plain (g : Nat) (S : Src) (i a : Nat) (bad : Bool) (kv : Value) (w : World) (h : Cur g S w i a bad kv) (hsg : S.b < g) (hk : Keys g kv w) (op : Int) (nm tx : ByteArray) (n x y : Int) :
    Calls Tryz.prog 134 #[CC g, .agg (keyC op nm tx n (.slice none 0 0) x y)] w (KInt g S (left S i a) bad w) :=
  put24 g S i a bad kv w h hsg hk op nm tx n _ x y 0 (by omega) (Rowed.nil _)

set_option maxHeartbeats 4000000 in
theorem none24 (g : Nat) (S : Src) (i a : Nat) (bad : Bool) (kv : Value) (w : World) (h : Cur g S w i a bad kv) (hsg : S.b < g) (hk : Keys g kv w) :
    Calls Tryz.prog 172 #[CC g] w (KInt g S (left S i a) bad w) := by
  have H := Lib.hid (put_plain g S i a bad kv w h hsg hk 0 ⟨#[]⟩ ⟨#[]⟩ 0 0 0)
  clear h hk
  go_enter Tryz.func172, Tryz.ntmps172
  go_wp2_with fail
  refine H.out.mono ?_
  rintro e w1 ⟨n, rfl, i1, a1, bad1, kv1, hC1, hk1, hK1, hl1, hb1⟩
  have HC1 := Lib.hid hC1
  have Hk1 := Lib.hid hk1
  have HK1 := Lib.hid hK1
  have HB1 := Lib.hid hb1
  clear hC1 hk1 hK1 hb1
  go_wp2_with fail
  refine (put_plain g S i1 a1 bad1 kv1 w1 HC1.out hsg Hk1.out 16 ⟨#[]⟩ ⟨#[]⟩ 0 n 0).mono ?_
  rintro e w2 h2
  obtain ⟨m, rfl, hM⟩ := h2.step HK1.out hl1 HB1.out
  go_wp2_with fail
  go_ret
  exact ⟨m, rfl, hM⟩

end Go.Proofs.YtjamgkcmpcnfpaaGreatDoor

namespace Go.Proofs.YtjamgkcmpcnfpaaGreatDoor
open Go.RowKit

/-- 'key' at a depth. -/
def KeyAt (g : Nat) (S : Src) (deep : Int) : Prop :=
  ∀ (i a : Nat) (bad : Bool) (kv : Value) (w : World), Cur g S w i a bad kv → Keys g kv w → Calls Tryz.prog 133 #[CC g, .int .i64 deep] w (KInt g S (left S i a) bad w)

/-- What holds ahead of a round. -/
def TogR (g : Nat) (S : Src) (r : Nat) (bad : Bool) (w : World) (x : Value) (wr : World) : Prop :=
  ∃ (n : Int) (i a : Nat) (bad' : Bool) (kv : Value), x = .int .i64 n ∧ Cur g S wr i a bad' kv ∧ Keys g kv wr ∧ KKept g w wr ∧ left S i a ≤ r ∧ (bad = true → bad' = true)

theorem Keys.drewN {g : Nat} {kv : Value} {W : World} (h : Keys g kv W) (m : Nat) : Keys g kv (W.drewN m) := h.keep ((Kept.refl g W).drewN m)

set_option maxHeartbeats 8000000 in
theorem together24 (g : Nat) (S : Src) (deep : Int) (hKey : KeyAt g S deep) (lst : Bool) (i a : Nat) (bad : Bool) (kv : Value) (w : World) (h : Cur g S w i a bad kv) (hsg : S.b < g) (hk : Keys g kv w) :
    Calls Tryz.prog 102 #[CC g, .int .i64 deep, .bool lst] w (KInt g S (left S i a) bad w) := by
  have HKEY := Lib.hid hKey
  have H := Lib.hid (hKey i a bad kv w h hk)
  clear h hk hKey
  go_enter Tryz.func102, Tryz.ntmps102
  go_wp2_with fail
  refine H.out.mono ?_
  rintro e w1 ⟨n, rfl, i1, a1, bad1, kv1, hC1, hk1, hK1, hl1, hb1⟩
  have HC1 := Lib.hid hC1
  have Hk1 := Lib.hid hk1
  have HK1 := Lib.hid hK1
  have HB1 := Lib.hid hb1
  clear hC1 hk1 hK1 hb1
  go_wp2_with fail
  go_loopw [7] (fun x wr => TogR g S (left S i a) bad w x wr) (fun _ wr => togo g S wr)
  case atStart => exact ⟨n, i1, a1, bad1, kv1, rfl, HC1.out, Hk1.out, HK1.out, hl1, HB1.out⟩
  case round =>
    obtain ⟨n2, i2, a2, bad2, kv2, rfl, hC2, hk2, hK2, hl2, hb2⟩ := hrel
    have c3 := hC2.c3
    have HC2 := Lib.hid hC2
    have Hk2 := Lib.hid hk2
    have HK2 := Lib.hid hK2
    have HB2 := Lib.hid hb2
    clear hC2 hk2 hK2 hb2
    -- what follows where the round goes on
    have rest : ∀ (i3 a3 : Nat) (bad3 : Bool) (w3 : World), Cur g S w3 i3 a3 bad3 kv2 → Keys g kv2 w3 → KKept g w w3 → left S i3 a3 ≤ left S i2 a2 → True := fun _ _ _ _ _ _ _ _ => trivial
    clear rest
    cases bad2
    · cases lst
      · go_wp2_with fail
        refine (cover_any g S i2 a2 false kv2 wr HC2.out).mono ?_
        rintro e w3 ⟨v, rfl, m, rfl⟩
        cases v
        · go_wp2_with fail
          refine (eat_any g S i2 a2 false kv2 32 _ (HC2.out.drewN m)).mono ?_
          rintro e w4 ⟨rfl, i4, a4, bad4, hC4, hK4, hl4, hlt4, hb4⟩
          have HC4 := Lib.hid hC4
          have Hk4 := Lib.hid ((Hk2.out.drewN m).keep hK4)
          have HK4 := Lib.hid ((HK2.out.trans ((Kept.refl g wr).drewN m).kk).trans hK4.kk)
          clear hC4 hK4 hb4
          go_wp2_with fail
          refine (HKEY.out i4 a4 bad4 kv2 w4 HC4.out Hk4.out).mono ?_
          rintro e w5 ⟨n5, rfl, i5, a5, bad5, kv5, hC5, hk5, hK5, hl5, hb5⟩
          have HC5 := Lib.hid hC5
          have Hk5 := Lib.hid hk5
          have HK5 := Lib.hid (HK4.out.trans hK5)
          have HB5 := Lib.hid hb5
          clear hC5 hk5 hK5 hb5
          go_wp2_with fail
          refine (put_plain g S i5 a5 bad5 kv5 w5 HC5.out hsg Hk5.out 18 ⟨#[]⟩ ⟨#[]⟩ 0 n2 n5).mono ?_
          rintro e w6 ⟨n6, rfl, i6, a6, bad6, kv6, hC6, hk6, hK6, hl6, hb6⟩
          have HC6 := Lib.hid hC6
          have Hk6 := Lib.hid hk6
          have HK6 := Lib.hid (HK5.out.trans hK6)
          have HB6 := Lib.hid hb6
          clear hC6 hk6 hK6 hb6
          go_wp2_with fail
          go_roundw
          case rel => exact ⟨_, i6, a6, bad6, kv6, rfl, HC6.out, Hk6.out, HK6.out, by omega, fun h => absurd (HB2.out h) (by decide)⟩
          case measure => exact togo_lt HC2.out HC6.out (hlt4.imp (fun h => HB6.out (HB5.out h)) (by omega))
        · go_wp2_with fail
          go_ret
          exact ⟨_, rfl, i2, a2, false, kv2, HC2.out.drewN m, Hk2.out.drewN m, HK2.out.trans ((Kept.refl g wr).drewN m).kk, hl2, HB2.out⟩
      · go_wp2_with fail
        refine (if1_any g S i2 a2 false kv2 41 wr HC2.out).mono ?_
        rintro e w3 ⟨v, rfl, ⟨i3, a3, bad3, hC3, hK3, hl3, hb3⟩, _⟩
        have HC3 := Lib.hid hC3
        have Hk3 := Lib.hid (Hk2.out.keep hK3)
        have HK3 := Lib.hid (HK2.out.trans hK3.kk)
        clear hC3 hK3 hb3
        cases v
        · go_wp2_with fail
          refine (eat_any g S i3 a3 bad3 kv2 32 _ HC3.out).mono ?_
          rintro e w4 ⟨rfl, i4, a4, bad4, hC4, hK4, hl4, hlt4, hb4⟩
          have HC4 := Lib.hid hC4
          have Hk4 := Lib.hid (Hk3.out.keep hK4)
          have HK4 := Lib.hid (HK3.out.trans hK4.kk)
          clear hC4 hK4 hb4
          go_wp2_with fail
          refine (HKEY.out i4 a4 bad4 kv2 w4 HC4.out Hk4.out).mono ?_
          rintro e w5 ⟨n5, rfl, i5, a5, bad5, kv5, hC5, hk5, hK5, hl5, hb5⟩
          have HC5 := Lib.hid hC5
          have Hk5 := Lib.hid hk5
          have HK5 := Lib.hid (HK4.out.trans hK5)
          have HB5 := Lib.hid hb5
          clear hC5 hk5 hK5 hb5
          go_wp2_with fail
          refine (put_plain g S i5 a5 bad5 kv5 w5 HC5.out hsg Hk5.out 18 ⟨#[]⟩ ⟨#[]⟩ 0 n2 n5).mono ?_
          rintro e w6 ⟨n6, rfl, i6, a6, bad6, kv6, hC6, hk6, hK6, hl6, hb6⟩
          have HC6 := Lib.hid hC6
          have Hk6 := Lib.hid hk6
          have HK6 := Lib.hid (HK5.out.trans hK6)
          have HB6 := Lib.hid hb6
          clear hC6 hk6 hK6 hb6
          go_wp2_with fail
          go_roundw
          case rel => exact ⟨_, i6, a6, bad6, kv6, rfl, HC6.out, Hk6.out, HK6.out, by omega, fun h => absurd (HB2.out h) (by decide)⟩
          case measure => exact togo_lt HC2.out HC6.out (hlt4.imp (fun h => HB6.out (HB5.out h)) (by omega))
        · go_wp2_with fail
          go_ret
          exact ⟨_, rfl, i3, a3, bad3, kv2, HC3.out, Hk3.out, HK3.out, by omega, fun h => absurd (HB2.out h) (by decide)⟩
    · go_wp2_with fail
      go_ret
      exact ⟨_, rfl, i2, a2, true, kv2, HC2.out, Hk2.out, HK2.out, hl2, fun _ => rfl⟩

end Go.Proofs.YtjamgkcmpcnfpaaGreatDoor

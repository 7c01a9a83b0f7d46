/-
  The document's 'Right' and 'Print' of sets.
-/
import Derived.Test.YtjamgkcmpcnfpaaGreatDoorDigits
import Derived.Test.YtjamgkcmpcnfpaaGreatDoorSameSet
namespace Go.Proofs.YtjamgkcmpcnfpaaGreatDoor
open Go.RowKit

/-- A row of pairs lies in memory. -/
def PairsAt (w : World) (b o n : Nat) (ps : List (Int × Int)) : Prop :=
  ∀ i, i < n → w.cell? ⟨b, o + i * 2, none⟩ = some (.int .i64 (ps.getD i (0, 0)).1) ∧ w.cell? ⟨b, o + i * 2 + 1, none⟩ = some (.int .i64 (ps.getD i (0, 0)).2)

def inU (x : Int) : Prop := 0 ≤ x ∧ x ≤ 4294967295

/-- What 'Right' tells. -/
def RightP (n : Nat) (ps : List (Int × Int)) : Prop := 1 ≤ n ∧ n ≤ 60 ∧ ∀ i, i < n → inU (ps.getD i (0, 0)).1 ∧ inU (ps.getD i (0, 0)).2

set_option maxHeartbeats 4000000 in
set_option maxRecDepth 100000 in
theorem Right09_any (b o n c : Nat) (ps : List (Int × Int)) (w : World) (hn : n ≤ 9223372036854775806) (h : PairsAt w b o n ps) :
    Calls Tryz.prog 29 #[.slice (some ⟨b, o, none⟩) n c] w (Tells (RightP n ps) w) := by
  have H := Lib.hid h; clear h
  have HQ : Hid (1 ≤ n → n ≤ 60 → (∀ i, i < n → inU (ps.getD i (0, 0)).1 ∧ inU (ps.getD i (0, 0)).2) → RightP n ps) := Lib.hid fun a b c => ⟨a, b, c⟩
  generalize RightP n ps = Q at *
  go_enter Tryz.func29, Tryz.ntmps29
  go_wp2_with fail
  go_loop [3] (fun i => ∃ k : Nat, k ≤ n ∧ k ≤ 61 ∧ i = .int .i64 k ∧ Hid (∀ j, j < k → inU (ps.getD j (0, 0)).1 ∧ inU (ps.getD j (0, 0)).2)) (fun i => n - (intOf i).toNat)
  case atStart => exact ⟨0, by omega, by omega, rfl, Lib.hid fun j hj => by omega⟩
  case round =>
    obtain ⟨k, hk, hk61, rfl, Hr⟩ := hrel
    by_cases hlt : k < n
    · by_cases h61 : k < 61
      · obtain ⟨p1, p2⟩ := H.out k hlt
        have HN : Hid (inU (ps.getD k (0, 0)).1 → inU (ps.getD k (0, 0)).2 → ∀ j, j < k + 1 → inU (ps.getD j (0, 0)).1 ∧ inU (ps.getD j (0, 0)).2) := Lib.hid fun a b j hj =>
          if e : j = k then e ▸ ⟨a, b⟩ else Hr.out j (by omega)
        generalize (ps.getD k (0, 0)).1 = x at *
        generalize (ps.getD k (0, 0)).2 = y at *
        have r1 : decide ((k : Int) < 61) = true := by simp; omega
        by_cases x0 : x < 0
        · have m1 : decide (x < 0) = true := by simpa using x0
          clear x0
          go_wp2_with fail
          go_ret
          exact Tells.no
        · have m1 : decide (x < 0) = false := by simpa using x0
          by_cases x1 : 4294967295 < x
          · have m2 : decide (4294967295 < x) = true := by simpa using x1
            clear x0 x1
            go_wp2_with fail
            go_ret
            exact Tells.no
          · have m2 : decide (4294967295 < x) = false := by simpa using x1
            by_cases y0 : y < 0
            · have m3 : decide (y < 0) = true := by simpa using y0
              clear x0 x1 y0
              go_wp2_with fail
              go_ret
              exact Tells.no
            · have m3 : decide (y < 0) = false := by simpa using y0
              by_cases y1 : 4294967295 < y
              · have m4 : decide (4294967295 < y) = true := by simpa using y1
                clear x0 x1 y0 y1
                go_wp2_with fail
                go_ret
                exact Tells.no
              · have m4 : decide (4294967295 < y) = false := by simpa using y1
                have HN2 := Lib.hid (HN.out ⟨by omega, by omega⟩ ⟨by omega, by omega⟩)
                clear x0 x1 y0 y1
                go_wp2_with fail
                go_round
                case rel => exact ⟨k + 1, by omega, by omega, by go_num, HN2⟩
                case measure => simp [intOf]; omega
      · have r1 : decide ((k : Int) < 61) = false := by simp; omega
        have h1 : decide ((1 : Int) ≤ (n : Int)) = true := by simp; omega
        have h2 : decide ((n : Int) ≤ 60) = false := by simp; omega
        go_wp2_with fail
        go_ret
        exact Tells.no
    · have e : k = n := by omega
      subst e
      by_cases h1 : 1 ≤ k
      · by_cases h2 : k ≤ 60
        · have h1' : decide ((1 : Int) ≤ (k : Int)) = true := by simp; omega
          have h2' : decide ((k : Int) ≤ 60) = true := by simp; omega
          go_wp2_with fail
          go_ret
          exact Tells.yes (HQ.out h1 h2 Hr.out)
        · have h1' : decide ((1 : Int) ≤ (k : Int)) = true := by simp; omega
          have h2' : decide ((k : Int) ≤ 60) = false := by simp; omega
          go_wp2_with fail
          go_ret
          exact Tells.no
      · have h1' : decide ((1 : Int) ≤ (k : Int)) = false := by simp; omega
        go_wp2_with fail
        go_ret
        exact Tells.no

/-- A range's text. -/
def partL (p : Nat × Nat) : List UInt8 := endL p.1 ++ if p.2 = p.1 then [] else 58 :: endL p.2

/-- The pairs, as numbers. -/
def rsOf (n : Nat) (ps : List (Int × Int)) : List (Nat × Nat) := (List.range n).map fun i => ((ps.getD i (0, 0)).1.toNat, (ps.getD i (0, 0)).2.toNat)

theorem rsOf_length (n : Nat) (ps : List (Int × Int)) : (rsOf n ps).length = n := by simp [rsOf]
theorem rsOf_at (n : Nat) (ps : List (Int × Int)) (i : Nat) (h : i < n) : (rsOf n ps)[i]? = some ((ps.getD i (0, 0)).1.toNat, (ps.getD i (0, 0)).2.toNat) := by simp [rsOf, h]

/-- The text of the first ranges. -/
def textL (n : Nat) (ps : List (Int × Int)) (k : Nat) : List UInt8 := joinC 44 (((rsOf n ps).take k).map partL)

theorem joinC_snoc (c : UInt8) (x : List UInt8) : ∀ l : List (List UInt8), joinC c (l ++ [x]) = if l = [] then x else joinC c l ++ c :: x
  | [] => rfl
  | [s] => rfl
  | s :: t :: r => by
    have ih := joinC_snoc c x (t :: r)
    rw [if_neg (by simp)] at ih ⊢
    show s ++ c :: joinC c ((t :: r) ++ [x]) = (s ++ c :: joinC c (t :: r)) ++ c :: x
    rw [ih]
    simp

theorem text_succ (n : Nat) (ps : List (Int × Int)) (k : Nat) (h : k < n) : textL n ps (k + 1) = (if k = 0 then [] else textL n ps k ++ [44]) ++ (endL (ps.getD k (0, 0)).1.toNat ++ if (ps.getD k (0, 0)).2.toNat = (ps.getD k (0, 0)).1.toNat then [] else 58 :: endL (ps.getD k (0, 0)).2.toNat) := by
  unfold textL
  rw [List.take_add_one, rsOf_at n ps k h]
  simp only [Option.toList_some, List.map_append, List.map_cons, List.map_nil]
  rw [joinC_snoc]
  by_cases hk : k = 0
  · subst hk; simp [partL]
  · rw [if_neg hk, if_neg]
    · simp [partL]
    · intro e
      have : (((rsOf n ps).take k).map partL).length = k := by simp [rsOf_length]; omega
      rw [e] at this
      simp at this
      omega

/-- What 'Print' gives. -/
def PrintP (n : Nat) (ps : List (Int × Int)) (w : World) (e : Ending) (w' : World) : Prop :=
  ∃ t m, e = .returned (.tuple #[.string t, .int .i64 m]) ∧ Below w.heap.size w w' ∧ (m = 0 → RightP n ps ∧ t.data.toList = textL n ps n)

theorem PrintP.no (n : Nat) (ps : List (Int × Int)) (w : World) : PrintP n ps w (.returned (.tuple #[.string ⟨#[]⟩, .int .i64 1])) w := ⟨_, 1, rfl, Below.refl _ _, fun h => by cases h⟩
theorem PrintP.yes {n : Nat} {ps : List (Int × Int)} {w : World} {t : ByteArray} (m : Nat) (h : RightP n ps) (ht : t.data.toList = textL n ps n) : PrintP n ps w (.returned (.tuple #[.string t, .int .i64 0])) (w.drewN m) :=
  ⟨_, 0, rfl, ⟨rfl, rfl, rfl, Nat.le_refl _, fun _ _ => rfl⟩, fun _ => ⟨h, ht⟩⟩

theorem end_len (n : Nat) (h : n ≤ 4294967295) : (⟨(endL n).toArray⟩ : ByteArray).size ≤ 4294967296 := by
  rw [size_bytes]
  unfold endL
  split
  · simp
  · have := decL_len _ n (Nat.lt_succ_self _)
    simp
    omega

set_option maxHeartbeats 8000000 in
set_option maxRecDepth 100000 in
theorem Print_any (b o n c : Nat) (ps : List (Int × Int)) (w : World) (hn : n ≤ 9223372036854775806) (h : PairsAt w b o n ps) :
    Calls Tryz.prog 13 #[.slice (some ⟨b, o, none⟩) n c] w (PrintP n ps w) := by
  have HR := Lib.hid (Right09_any b o n c ps w hn h)
  have H := Lib.hid h; clear h
  go_enter Tryz.func13, Tryz.ntmps13
  go_wp2_with fail
  refine HR.out.mono ?_
  rintro e w1 ⟨r, rfl, rfl, hr⟩
  cases r with
  | false =>
    go_wp2_with fail
    go_ret2
    exact PrintP.no n ps w
  | true =>
    have hRP := hr rfl
    have h60 := hRP.2.1
    have HRP := Lib.hid hRP
    clear hr hRP
    go_wp2_with fail
    go_loopw [4, 5] (fun s i wr => ∃ (k m : Nat) (t : ByteArray), k ≤ n ∧ wr = w.drewN m ∧ i = .int .i64 k ∧ s = .string t ∧ t.size ≤ k * 10000000000 ∧ Hid (t.data.toList = textL n ps k)) (fun _ i _ => n - (intOf i).toNat)
    case atStart => exact ⟨0, 0, ⟨#[]⟩, by omega, rfl, rfl, rfl, by decide, Lib.hid rfl⟩
    case round =>
      obtain ⟨k, m, t, hk, rfl, rfl, rfl, hts, HT⟩ := hrel
      by_cases hlt : k < n
      · obtain ⟨p1, p2⟩ := H.out k hlt
        obtain ⟨⟨a1, a2⟩, ⟨b1, b2⟩⟩ := HRP.out.2.2 k hlt
        obtain ⟨x, hx⟩ : ∃ x : Nat, (ps.getD k (0, 0)).1 = (x : Int) := ⟨_, (Int.toNat_of_nonneg a1).symm⟩
        obtain ⟨y, hy⟩ : ∃ y : Nat, (ps.getD k (0, 0)).2 = (y : Int) := ⟨_, (Int.toNat_of_nonneg b1).symm⟩
        have hX : (ps.getD k (0, 0)).1.toNat = x := by rw [hx]; rfl
        have hY : (ps.getD k (0, 0)).2.toNat = y := by rw [hy]; rfl
        rw [hx] at p1 a2
        rw [hy] at p2 b2
        clear hx hy a1 b1
        have HE1 := Lib.hid (end_any x (by omega))
        have HE2 := Lib.hid (end_any y (by omega))
        have l1 := end_len x (by omega)
        have l2 := end_len y (by omega)
        have l1' : (endL x).length ≤ 4294967296 := by rw [size_bytes] at l1; simpa using l1
        have l2' : (endL y).length ≤ 4294967296 := by rw [size_bytes] at l2; simpa using l2
        clear a2 b2
        by_cases hk0 : k = 0
        · by_cases hxy : y = x
          · have hk0' : decide ((0 : Int) < (k : Int)) = false := by simp; omega
            have hkp : ¬ 0 < k := by omega
            have hkp' : decide (0 < k) = false := by simpa using hkp
            have hyx' : ((y : Int) != (x : Int)) = false := by subst hxy; simp
            have HT2 : Hid ((t ++ ⟨(endL x).toArray⟩).data.toList = textL n ps (k + 1)) := Lib.hid (by
              rw [text_succ n ps k hlt, hX, hY, if_pos hk0, if_pos hxy]
              have h0 : t.data.toList = [] := by rw [HT.out, hk0]; rfl
              simp [h0])
            clear hk0 hxy hX hY
            generalize endL x = ex at *
            have z2 : (t ++ ⟨ex.toArray⟩ : ByteArray).size = t.size + (⟨ex.toArray⟩ : ByteArray).size := ByteArray.size_append
            go_wp2_with fail
            refine (HE1.out _).mono ?_
            rintro e w1 ⟨rfl, rfl⟩
            go_wp2_with fail
            go_quiet (fail)
            go_wp2_with fail
            go_roundw
            case rel => exact ⟨k + 1, _, _, by omega, rfl, by go_num, rfl, by omega, HT2⟩
            case measure => simp [intOf]; omega
          · have hk0' : decide ((0 : Int) < (k : Int)) = false := by simp; omega
            have hkp : ¬ 0 < k := by omega
            have hkp' : decide (0 < k) = false := by simpa using hkp
            have hyx' : ((y : Int) != (x : Int)) = true := by rw [bne_iff_ne]; omega
            have HT2 : Hid ((t ++ ⟨(endL x).toArray⟩ ++ ⟨#[58]⟩ ++ ⟨(endL y).toArray⟩).data.toList = textL n ps (k + 1)) := Lib.hid (by
              rw [text_succ n ps k hlt, hX, hY, if_pos hk0, if_neg hxy]
              have h0 : t.data.toList = [] := by rw [HT.out, hk0]; rfl
              simp [h0])
            clear hk0 hxy hX hY
            generalize endL x = ex at *
            generalize endL y = ey at *
            have z2 : (t ++ ⟨ex.toArray⟩ : ByteArray).size = t.size + (⟨ex.toArray⟩ : ByteArray).size := ByteArray.size_append
            have z3 : (t ++ ⟨ex.toArray⟩ ++ ⟨#[58]⟩ : ByteArray).size = (t ++ ⟨ex.toArray⟩ : ByteArray).size + 1 := by rw [ByteArray.size_append]; rfl
            have z4 : (t ++ ⟨ex.toArray⟩ ++ ⟨#[58]⟩ ++ ⟨ey.toArray⟩ : ByteArray).size = (t ++ ⟨ex.toArray⟩ ++ ⟨#[58]⟩ : ByteArray).size + (⟨ey.toArray⟩ : ByteArray).size := ByteArray.size_append
            go_wp2_with fail
            refine (HE1.out _).mono ?_
            rintro e w1 ⟨rfl, rfl⟩
            go_wp2_with fail
            go_quiet (fail)
            go_wp2_with fail
            refine (HE2.out _).mono ?_
            rintro e w1 ⟨rfl, rfl⟩
            go_wp2_with fail
            go_roundw
            case rel => exact ⟨k + 1, _, _, by omega, rfl, by go_num, rfl, by omega, HT2⟩
            case measure => simp [intOf]; omega
        · by_cases hxy : y = x
          · have hk0' : decide ((0 : Int) < (k : Int)) = true := by simp; omega
            have hkp : 0 < k := by omega
            have hkp' : decide (0 < k) = true := by simpa using hkp
            have hyx' : ((y : Int) != (x : Int)) = false := by subst hxy; simp
            have HT2 : Hid (((t ++ ⟨#[44]⟩) ++ ⟨(endL x).toArray⟩).data.toList = textL n ps (k + 1)) := Lib.hid (by
              rw [text_succ n ps k hlt, hX, hY, if_neg hk0, if_pos hxy]
              simp [HT.out])
            clear hk0 hxy hX hY
            generalize endL x = ex at *
            have z1 : (t ++ ⟨#[44]⟩ : ByteArray).size = t.size + 1 := by rw [ByteArray.size_append]; rfl
            have z2 : ((t ++ ⟨#[44]⟩) ++ ⟨ex.toArray⟩ : ByteArray).size = (t ++ ⟨#[44]⟩).size + (⟨ex.toArray⟩ : ByteArray).size := ByteArray.size_append
            go_wp2_with fail
            refine (HE1.out _).mono ?_
            rintro e w1 ⟨rfl, rfl⟩
            go_wp2_with fail
            go_quiet (fail)
            go_wp2_with fail
            go_roundw
            case rel => exact ⟨k + 1, _, _, by omega, rfl, by go_num, rfl, by omega, HT2⟩
            case measure => simp [intOf]; omega
          · have hk0' : decide ((0 : Int) < (k : Int)) = true := by simp; omega
            have hkp : 0 < k := by omega
            have hkp' : decide (0 < k) = true := by simpa using hkp
            have hyx' : ((y : Int) != (x : Int)) = true := by rw [bne_iff_ne]; omega
            have HT2 : Hid (((t ++ ⟨#[44]⟩) ++ ⟨(endL x).toArray⟩ ++ ⟨#[58]⟩ ++ ⟨(endL y).toArray⟩).data.toList = textL n ps (k + 1)) := Lib.hid (by
              rw [text_succ n ps k hlt, hX, hY, if_neg hk0, if_neg hxy]
              simp [HT.out])
            clear hk0 hxy hX hY
            generalize endL x = ex at *
            generalize endL y = ey at *
            have z1 : (t ++ ⟨#[44]⟩ : ByteArray).size = t.size + 1 := by rw [ByteArray.size_append]; rfl
            have z2 : ((t ++ ⟨#[44]⟩) ++ ⟨ex.toArray⟩ : ByteArray).size = (t ++ ⟨#[44]⟩).size + (⟨ex.toArray⟩ : ByteArray).size := ByteArray.size_append
            have z3 : ((t ++ ⟨#[44]⟩) ++ ⟨ex.toArray⟩ ++ ⟨#[58]⟩ : ByteArray).size = ((t ++ ⟨#[44]⟩) ++ ⟨ex.toArray⟩ : ByteArray).size + 1 := by rw [ByteArray.size_append]; rfl
            have z4 : ((t ++ ⟨#[44]⟩) ++ ⟨ex.toArray⟩ ++ ⟨#[58]⟩ ++ ⟨ey.toArray⟩ : ByteArray).size = ((t ++ ⟨#[44]⟩) ++ ⟨ex.toArray⟩ ++ ⟨#[58]⟩ : ByteArray).size + (⟨ey.toArray⟩ : ByteArray).size := ByteArray.size_append
            go_wp2_with fail
            refine (HE1.out _).mono ?_
            rintro e w1 ⟨rfl, rfl⟩
            go_wp2_with fail
            go_quiet (fail)
            go_wp2_with fail
            refine (HE2.out _).mono ?_
            rintro e w1 ⟨rfl, rfl⟩
            go_wp2_with fail
            go_roundw
            case rel => exact ⟨k + 1, _, _, by omega, rfl, by go_num, rfl, by omega, HT2⟩
            case measure => simp [intOf]; omega
      · have e : k = n := by omega
        subst e
        go_wp2_with fail
        go_ret2
        exact PrintP.yes m HRP.out HT.out

end Go.Proofs.YtjamgkcmpcnfpaaGreatDoor

/-
  The reference's 'tag' and 'box'; 'Pattern', 'Join' of names.
  The reference's dates (07): 'leap', 'days', 'length', 'there', 'number', 'num'.
  The reference's dates (07): 'num', 'small', 'month', 'ymd'.
  The reference's dates (07): 'clock', 'zone', 'Parse', 'Short'; the cursor's 'day'.
-/
import Derived.Test.YtjamgkcmpcnfpaaGreatDoorS10
import Derived.Test.YtjamgkcmpcnfpaaGreatDoorS21
import Derived.Test.YtjamgkcmpcnfpaaGreatDoorS12
set_option linter.unusedVariables false
set_option linter.unusedSimpArgs false

namespace Go.Proofs.YtjamgkcmpcnfpaaGreatDoor
open Go.RowKit

set_option maxHeartbeats 2000000 in
theorem tag24 (g : Nat) (S : Src) (i a : Nat) (bad : Bool) (kv : Value) (w : World) (h : Cur g S w i a bad kv) :
    Calls Tryz.prog 34 #[CC g] w (StrMoves g S kv (left S i a) bad w) := by
  have hI := Lib.hid (word24 g S i a bad kv ⟨#[93]⟩ w h (by decide))
  clear h
  go_enter Tryz.func34, Tryz.ntmps34
  go_wp2_with fail
  refine hI.out.mono ?_
  rintro e w1 ⟨s, rfl, hs, i1, a1, bad1, hC1, hK1, hl1, hb1⟩
  have HC1 := Lib.hid hC1
  have HK1 := Lib.hid hK1
  have HB1 := Lib.hid hb1
  clear hC1 hK1 hb1
  by_cases h40 : 40 < s.size
  · have hd : decide ((40 : Int) < (s.size : Int)) = true := by simp; omega
    go_wp2_with fail
    refine (fail_any g S i1 a1 bad1 _ kv _ HC1.out).mono ?_
    rintro e w2 ⟨rfl, hC2, hK2⟩
    go_wp2_with fail
    go_ret
    exact ⟨s, rfl, hs, i1, a1, _, hC2, HK1.out.trans hK2, hl1, fun h => by rw [HB1.out h]; rfl⟩
  · have hd : decide ((40 : Int) < (s.size : Int)) = false := by simp; omega
    go_wp2_with fail
    refine (in24 s 43 w1 (by omega)).mono ?_
    rintro e w2 ⟨rfl, rfl⟩
    go_wp2_with fail
    refine (fail_any g S i1 a1 bad1 _ kv _ HC1.out).mono ?_
    rintro e w3 ⟨rfl, hC2, hK2⟩
    go_wp2_with fail
    go_ret
    exact ⟨s, rfl, hs, i1, a1, _, hC2, HK1.out.trans hK2, hl1, fun h => by rw [HB1.out h]; rfl⟩

set_option maxHeartbeats 2000000 in
theorem box24 (g : Nat) (S : Src) (i a : Nat) (bad : Bool) (kv : Value) (w : World) (h : Cur g S w i a bad kv) :
    Calls Tryz.prog 65 #[CC g] w fun e w' => ∃ s : ByteArray, e = .returned (.string s) ∧ Moves g S kv (left S i a) bad w w' := by
  have hI := Lib.hid (str24 g S i a bad kv ⟨#[]⟩ w h (by decide))
  clear h
  go_enter Tryz.func65, Tryz.ntmps65
  go_wp2_with fail
  refine hI.out.mono ?_
  rintro e w1 ⟨s, rfl, hs, i1, a1, bad1, hC1, hK1, hl1, hb1⟩
  have HC1 := Lib.hid hC1
  have HK1 := Lib.hid hK1
  have HB1 := Lib.hid hb1
  clear hC1 hK1 hb1
  go_wp2_with fail
  refine (Clean10_any s w1 (by omega)).mono ?_
  rintro e w2 ⟨t, n, rfl, rfl, hcl⟩
  clear hcl
  go_wp2_with fail
  refine (fail_any g S i1 a1 bad1 _ kv _ HC1.out).mono ?_
  rintro e w3 ⟨rfl, hC2, hK2⟩
  go_wp2_with fail
  go_ret
  exact ⟨t, rfl, i1, a1, _, hC2, HK1.out.trans hK2, hl1, fun h => by rw [HB1.out h]; rfl⟩

/-- A Boolean is returned; the world stands. -/
def Bools (w : World) (e : Ending) (w' : World) : Prop := ∃ r : Bool, e = .returned (.bool r) ∧ w = w'

set_option maxHeartbeats 4000000 in
theorem Pattern10 (s : ByteArray) (w : World) (hs : s.size ≤ 9223372036854775806) : Calls Tryz.prog 99 #[.string s] w (Bools w) := by
  go_enter Tryz.func99, Tryz.ntmps99
  go_wp2_with fail
  go_loop [3] (fun i => ∃ k : Nat, k ≤ s.size ∧ k ≤ 81 ∧ i = .int .i64 k) (fun i => s.size - (intOf i).toNat)
  case atStart => exact ⟨0, by omega, by omega, rfl⟩
  case round =>
    obtain ⟨k, hk, hk81, rfl⟩ := hrel
    by_cases hlt : k < s.size
    · by_cases h81 : k < 81
      · cases hp : plainB (s[k].toNat : Int)
        · have HP := fun w => plain_any (s[k].toNat : Int) w
          rw [hp] at HP
          clear hp
          by_cases h42 : (s[k].toNat : Int) = 42
          · have h42' : ((s[k].toNat : Int) != 42) = false := by simp [h42]
            clear h42
            go_wp2_with fail
            refine (HP _).mono ?_
            rintro e w2 ⟨rfl, rfl⟩
            go_wp2_with fail
            go_round
            case rel => exact ⟨k + 1, by omega, by omega, by go_num⟩
            case measure => simp [intOf]; omega
          · have h42' : ((s[k].toNat : Int) != 42) = true := by simpa using h42
            clear h42
            by_cases h37 : (s[k].toNat : Int) = 37
            · have h37' : ((s[k].toNat : Int) != 37) = false := by simp [h37]
              clear h37
              go_wp2_with fail
              refine (HP _).mono ?_
              rintro e w2 ⟨rfl, rfl⟩
              go_wp2_with fail
              go_round
              case rel => exact ⟨k + 1, by omega, by omega, by go_num⟩
              case measure => simp [intOf]; omega
            · have h37' : ((s[k].toNat : Int) != 37) = true := by simpa using h37
              clear h37
              go_wp2_with fail
              refine (HP _).mono ?_
              rintro e w2 ⟨rfl, rfl⟩
              go_wp2_with fail
              go_ret
              exact ⟨_, rfl, rfl⟩
        · have HP := fun w => plain_any (s[k].toNat : Int) w
          rw [hp] at HP
          clear hp
          go_wp2_with fail
          refine (HP _).mono ?_
          rintro e w2 ⟨rfl, rfl⟩
          go_wp2_with fail
          go_round
          case rel => exact ⟨k + 1, by omega, by omega, by go_num⟩
          case measure => simp [intOf]; omega
      · go_wp2_with fail
        go_ret
        exact ⟨_, rfl, rfl⟩
    · go_wp2_with fail
      go_ret
      exact ⟨_, rfl, rfl⟩

set_option maxHeartbeats 4000000 in
theorem Join10 (s t : ByteArray) (w : World) (hs : s.size ≤ 2000) (ht : t.size ≤ 2000) :
    Calls Tryz.prog 67 #[.string s, .string t] w fun e w' => ∃ (r : ByteArray) (n : Int), e = .returned (.tuple #[.string r, .int .i64 n]) ∧ w = w' := by
  have hst : (s ++ t).size = s.size + t.size := ByteArray.size_append
  have hst' : (s ++ t).size ≤ 9223372036854775806 := by omega
  by_cases h1 : 80 < s.size
  · have h1' : decide ((80 : Int) < (s.size : Int)) = true := by simp; omega
    go_enter Tryz.func67, Tryz.ntmps67
    go_wp2_with fail
    go_ret2
    exact ⟨_, _, rfl, rfl⟩
  · have h1' : decide ((80 : Int) < (s.size : Int)) = false := by simp; omega
    by_cases h2 : 80 < t.size
    · have h2' : decide ((80 : Int) < (t.size : Int)) = true := by simp; omega
      go_enter Tryz.func67, Tryz.ntmps67
      go_wp2_with fail
      go_ret2
      exact ⟨_, _, rfl, rfl⟩
    · have h2' : decide ((80 : Int) < (t.size : Int)) = false := by simp; omega
      have HP := Lib.hid (fun w => Pattern10 (s ++ t) w hst')
      clear hst hst'
      go_enter Tryz.func67, Tryz.ntmps67
      go_wp2_with fail
      refine (HP.out _).mono ?_
      rintro e w2 ⟨r, rfl, rfl⟩
      cases r
      · go_wp2_with fail
        go_ret2
        exact ⟨_, _, rfl, rfl⟩
      · go_wp2_with fail
        go_ret2
        exact ⟨_, _, rfl, rfl⟩

end Go.Proofs.YtjamgkcmpcnfpaaGreatDoor

namespace Go.Proofs.YtjamgkcmpcnfpaaGreatDoor
open Go.RowKit

set_option maxHeartbeats 2000000 in
theorem leap07 (y : Int) (w : World) (h0 : 0 ≤ y) (h1 : y ≤ 9999) : Calls Tryz.prog 224 #[.int .i64 y] w (Bools w) := by
  by_cases h4 : y % 4 = 0
  · have h4' : (y % 4 == 0) = true := by simpa using h4
    by_cases h100 : y % 100 = 0
    · have h100' : (y % 100 != 0) = false := by simpa using h100
      clear h4 h100
      go_enter Tryz.func224, Tryz.ntmps224
      go_wp2_with fail
      go_ret
      exact ⟨_, rfl, rfl⟩
    · have h100' : (y % 100 != 0) = true := by simpa using h100
      clear h4 h100
      go_enter Tryz.func224, Tryz.ntmps224
      go_wp2_with fail
      go_ret
      exact ⟨_, rfl, rfl⟩
  · have h4' : (y % 4 == 0) = false := by simpa using h4
    clear h4
    go_enter Tryz.func224, Tryz.ntmps224
    go_wp2_with fail
    go_ret
    exact ⟨_, rfl, rfl⟩

set_option maxHeartbeats 4000000 in
theorem days07 (y m : Int) (w : World) (h0 : 0 ≤ y) (h1 : y ≤ 9999) : Calls Tryz.prog 204 #[.int .i64 y, .int .i64 m] w (Ints w) := by
  by_cases m2 : m = 2
  · subst m2
    go_enter Tryz.func204, Tryz.ntmps204
    go_wp2_with fail
    refine (leap07 y w h0 h1).mono ?_
    rintro e w2 ⟨r, rfl, rfl⟩
    cases r
    · go_wp2_with fail
      go_ret
      exact ⟨_, rfl, rfl⟩
    · go_wp2_with fail
      go_ret
      exact ⟨_, rfl, rfl⟩
  · have m2' : (m == 2) = false := by simpa using m2
    by_cases m4 : m = 4
    · subst m4
      go_enter Tryz.func204, Tryz.ntmps204
      go_wp2_with fail
      go_ret
      exact ⟨_, rfl, rfl⟩
    · have m4' : (m == 4) = false := by simpa using m4
      by_cases m6 : m = 6
      · subst m6
        go_enter Tryz.func204, Tryz.ntmps204
        go_wp2_with fail
        go_ret
        exact ⟨_, rfl, rfl⟩
      · have m6' : (m == 6) = false := by simpa using m6
        by_cases m9 : m = 9
        · subst m9
          go_enter Tryz.func204, Tryz.ntmps204
          go_wp2_with fail
          go_ret
          exact ⟨_, rfl, rfl⟩
        · have m9' : (m == 9) = false := by simpa using m9
          by_cases m11 : m = 11
          · subst m11
            go_enter Tryz.func204, Tryz.ntmps204
            go_wp2_with fail
            go_ret
            exact ⟨_, rfl, rfl⟩
          · have m11' : (m == 11) = false := by simpa using m11
            clear m2 m4 m6 m9 m11
            go_enter Tryz.func204, Tryz.ntmps204
            go_wp2_with fail
            go_ret
            exact ⟨_, rfl, rfl⟩

set_option maxHeartbeats 2000000 in
theorem length07 (y : Int) (w : World) (h0 : 0 ≤ y) (h1 : y ≤ 9999) : Calls Tryz.prog 205 #[.int .i64 y] w (Ints w) := by
  go_enter Tryz.func205, Tryz.ntmps205
  go_wp2_with fail
  refine (leap07 y w h0 h1).mono ?_
  rintro e w2 ⟨r, rfl, rfl⟩
  cases r
  · go_wp2_with fail
    go_ret
    exact ⟨_, rfl, rfl⟩
  · go_wp2_with fail
    go_ret
    exact ⟨_, rfl, rfl⟩

set_option maxHeartbeats 4000000 in
theorem there07 (y m d : Int) (w : World) : Calls Tryz.prog 169 #[.int .i64 y, .int .i64 m, .int .i64 d] w (Tells (0 ≤ y ∧ y ≤ 9999 ∧ 1 ≤ m ∧ m ≤ 12) w) := by
  by_cases h0 : 0 ≤ y
  · have h0' : decide (0 ≤ y) = true := by simpa using h0
    by_cases h1 : y ≤ 9999
    · have h1' : decide (y ≤ 9999) = true := by simpa using h1
      by_cases h2 : 1 ≤ m
      · have h2' : decide (1 ≤ m) = true := by simpa using h2
        by_cases h3 : m ≤ 12
        · have h3' : decide (m ≤ 12) = true := by simpa using h3
          have HQ : Hid (0 ≤ y ∧ y ≤ 9999 ∧ 1 ≤ m ∧ m ≤ 12) := Lib.hid ⟨h0, h1, h2, h3⟩
          by_cases h4 : 1 ≤ d
          · have h4' : decide (1 ≤ d) = true := by simpa using h4
            go_enter Tryz.func169, Tryz.ntmps169
            go_wp2_with fail
            refine (days07 y m w h0 h1).mono ?_
            rintro e w2 ⟨r, rfl, rfl⟩
            go_wp2_with fail
            go_ret
            exact ⟨_, rfl, rfl, fun _ => HQ.out⟩
          · have h4' : decide (1 ≤ d) = false := by simpa using h4
            go_enter Tryz.func169, Tryz.ntmps169
            go_wp2_with fail
            go_ret
            exact Tells.no
        · have h3' : decide (m ≤ 12) = false := by simpa using h3
          go_enter Tryz.func169, Tryz.ntmps169
          go_wp2_with fail
          go_ret
          exact Tells.no
      · have h2' : decide (1 ≤ m) = false := by simpa using h2
        go_enter Tryz.func169, Tryz.ntmps169
        go_wp2_with fail
        go_ret
        exact Tells.no
    · have h1' : decide (y ≤ 9999) = false := by simpa using h1
      go_enter Tryz.func169, Tryz.ntmps169
      go_wp2_with fail
      go_ret
      exact Tells.no
  · have h0' : decide (0 ≤ y) = false := by simpa using h0
    go_enter Tryz.func169, Tryz.ntmps169
    go_wp2_with fail
    go_ret
    exact Tells.no

set_option maxHeartbeats 8000000 in
theorem number07 (y m d : Int) (w : World) (h0 : 0 ≤ y) (h1 : y ≤ 9999) (h2 : 1 ≤ m) (h3 : m ≤ 12) : Calls Tryz.prog 170 #[.int .i64 y, .int .i64 m, .int .i64 d] w (Ints w) := by
  go_enter Tryz.func170, Tryz.ntmps170
  go_wp2_with fail
  go_loop [7, 8] (fun x i => ∃ n k : Int, x = .int .i64 n ∧ i = .int .i64 k ∧ 1 ≤ k ∧ k ≤ m) (fun _ i => (m - intOf i).toNat)
  case atStart => exact ⟨_, 1, rfl, rfl, by omega, by omega⟩
  case round =>
    obtain ⟨n, k, rfl, rfl, hk1, hk2⟩ := hrel
    by_cases hlt : k < m
    · have hlt' : decide (k < m) = true := by simpa using hlt
      go_wp2_with fail
      refine (days07 y k w h0 h1).mono ?_
      rintro e w2 ⟨r, rfl, rfl⟩
      go_wp2_with fail
      go_round
      case rel => exact ⟨_, k + 1, rfl, rfl, by omega, by omega⟩
      case measure => simp [intOf]; omega
    · have hlt' : decide (k < m) = false := by simpa using hlt
      go_wp2_with fail
      go_loop [7, 9] (fun x i => ∃ n k : Int, x = .int .i64 n ∧ i = .int .i64 k ∧ 1970 ≤ k ∧ k ≤ 10000) (fun _ i => (10000 - intOf i).toNat)
      case atStart => exact ⟨_, 1970, rfl, rfl, by omega, by omega⟩
      case round =>
        obtain ⟨n2, k2, rfl, rfl, hk3, hk4⟩ := hrel
        by_cases hlt2 : k2 < y
        · have hlt2' : decide (k2 < y) = true := by simpa using hlt2
          go_wp2_with fail
          refine (length07 k2 w (by omega) (by omega)).mono ?_
          rintro e w2 ⟨r, rfl, rfl⟩
          go_wp2_with fail
          go_round
          case rel => exact ⟨_, k2 + 1, rfl, rfl, by omega, by omega⟩
          case measure => simp [intOf]; omega
        · have hlt2' : decide (k2 < y) = false := by simpa using hlt2
          go_wp2_with fail
          go_loop [7, 10] (fun x i => ∃ n k : Int, x = .int .i64 n ∧ i = .int .i64 k ∧ 0 ≤ k ∧ k ≤ 10000) (fun _ i => (10000 - intOf i).toNat)
          case atStart => exact ⟨_, y, rfl, rfl, by omega, by omega⟩
          case round =>
            obtain ⟨n3, k3, rfl, rfl, hk5, hk6⟩ := hrel
            by_cases hlt3 : k3 < 1970
            · have hlt3' : decide (k3 < 1970) = true := by simpa using hlt3
              go_wp2_with fail
              refine (length07 k3 w (by omega) (by omega)).mono ?_
              rintro e w2 ⟨r, rfl, rfl⟩
              go_wp2_with fail
              go_round
              case rel => exact ⟨_, k3 + 1, rfl, rfl, by omega, by omega⟩
              case measure => simp [intOf]; omega
            · have hlt3' : decide (k3 < 1970) = false := by simpa using hlt3
              go_wp2_with fail
              go_ret
              exact ⟨_, rfl, rfl⟩

end Go.Proofs.YtjamgkcmpcnfpaaGreatDoor

namespace Go.Proofs.YtjamgkcmpcnfpaaGreatDoor
open Go.RowKit

set_option maxHeartbeats 4000000 in
theorem num07 (s : ByteArray) (f t : Int) (w : World) (hs : s.size ≤ 9223372036854775806) : Calls Tryz.prog 167 #[.string s, .int .i64 f, .int .i64 t] w (Ints w) := by
  by_cases h1 : (s.size : Int) < f
  · have h1' : decide ((s.size : Int) < f) = true := by simpa using h1
    go_enter Tryz.func167, Tryz.ntmps167
    go_wp2_with fail
    go_ret
    exact ⟨_, rfl, rfl⟩
  · have h1' : decide ((s.size : Int) < f) = false := by simpa using h1
    by_cases h2 : t < (s.size : Int)
    · have h2' : decide (t < (s.size : Int)) = true := by simpa using h2
      go_enter Tryz.func167, Tryz.ntmps167
      go_wp2_with fail
      go_ret
      exact ⟨_, rfl, rfl⟩
    · have h2' : decide (t < (s.size : Int)) = false := by simpa using h2
      clear h1 h2
      go_enter Tryz.func167, Tryz.ntmps167
      go_wp2_with fail
      clear h1' h2'
      go_loop [7, 8] (fun x i => ∃ (k : Nat) (n : Int), k ≤ s.size ∧ i = .int .i64 k ∧ x = .int .i64 n) (fun _ i => s.size - (intOf i).toNat)
      case atStart => exact ⟨0, 0, by omega, rfl, rfl⟩
      case round =>
        obtain ⟨k, n, hk, rfl, rfl⟩ := hrel
        by_cases hlt : k < s.size
        · by_cases x1 : (s[k].toNat : Int) < 48
          · have x1' : decide ((s[k].toNat : Int) < 48) = true := by simp; omega
            clear x1
            go_wp2_with fail
            go_ret
            exact ⟨_, rfl, rfl⟩
          · have x1' : decide ((s[k].toNat : Int) < 48) = false := by simp; omega
            by_cases x2 : 57 < (s[k].toNat : Int)
            · have x2' : decide (57 < (s[k].toNat : Int)) = true := by simp; omega
              clear x1 x2
              go_wp2_with fail
              go_ret
              exact ⟨_, rfl, rfl⟩
            · have x2' : decide (57 < (s[k].toNat : Int)) = false := by simp; omega
              clear x1 x2
              go_wp2_with fail
              go_round
              case rel => exact ⟨k + 1, _, by omega, by go_num, rfl⟩
              case measure => simp [intOf]; omega
        · go_wp2_with fail
          go_ret
          exact ⟨_, rfl, rfl⟩

set_option maxHeartbeats 4000000 in
theorem small07 (s : ByteArray) (w : World) (hs : s.size ≤ 2000) : Calls Tryz.prog 202 #[.string s] w (StrBelow w) := by
  have hone := one_byte
  have hosz := one_size
  go_enter Tryz.func202, Tryz.ntmps202
  go_wp2_with fail
  go_loopw [3, 4] (fun x i wr => ∃ (k : Nat) (t : ByteArray), k ≤ s.size ∧ i = .int .i64 k ∧ x = .string t ∧ t.size ≤ k ∧ Below w.heap.size w wr) (fun _ i _ => s.size - (intOf i).toNat)
  case atStart => exact ⟨0, ⟨#[]⟩, by omega, rfl, rfl, by decide, Below.refl _ _⟩
  case round =>
    obtain ⟨k, t, hk, rfl, rfl, hts, hB⟩ := hrel
    by_cases hlt : k < s.size
    · by_cases x1 : 65 ≤ (s[k].toNat : Int)
      · have x1' : decide (65 ≤ (s[k].toNat : Int)) = true := by simp; omega
        by_cases x2 : (s[k].toNat : Int) ≤ 90
        · have x2' : decide ((s[k].toNat : Int) ≤ 90) = true := by simp; omega
          go_wp2_with fail
          go_roundw
          case rel => exact ⟨k + 1, _, by omega, by go_num, rfl, by simp [ByteArray.size_append, one_size]; omega, hB.alloc hB.size _⟩
          case measure => simp [intOf]; omega
        · have x2' : decide ((s[k].toNat : Int) ≤ 90) = false := by simp; omega
          clear x1 x2
          go_wp2_with fail
          go_roundw
          case rel => exact ⟨k + 1, _, by omega, by go_num, rfl, by simp [ByteArray.size_append, one_size]; omega, hB.alloc hB.size _⟩
          case measure => simp [intOf]; omega
      · have x1' : decide (65 ≤ (s[k].toNat : Int)) = false := by simp; omega
        clear x1
        go_wp2_with fail
        go_roundw
        case rel => exact ⟨k + 1, _, by omega, by go_num, rfl, by simp [ByteArray.size_append, one_size]; omega, hB.alloc hB.size _⟩
        case measure => simp [intOf]; omega
    · go_wp2_with fail
      go_ret
      exact ⟨_, rfl, hB⟩

/-- The months' names. -/
def monthsB : ByteArray := ⟨#[74, 97, 110, 70, 101, 98, 77, 97, 114, 65, 112, 114, 77, 97, 121, 74, 117, 110, 74, 117, 108, 65, 117, 103, 83, 101, 112, 79, 99, 116, 78, 111, 118, 68, 101, 99]⟩

set_option maxHeartbeats 1000000 in
theorem months07 (w : World) : Calls Tryz.prog 203 #[] w fun e w' => e = .returned (.string monthsB) ∧ w = w' := by
  go_enter Tryz.func203, Tryz.ntmps203
  go_wp2_with fail
  go_ret
  exact ⟨rfl, rfl⟩

theorem monthsB_size : monthsB.size = 36 := rfl

set_option maxHeartbeats 4000000 in
theorem month07 (s : ByteArray) (w : World) (hs : s.size ≤ 2000) : Calls Tryz.prog 168 #[.string s] w (IntBelow w) := by
  go_enter Tryz.func168, Tryz.ntmps168
  go_wp2_with fail
  go_loopw [3] (fun i wr => ∃ k : Nat, 1 ≤ k ∧ k ≤ 13 ∧ i = .int .i64 k ∧ Below w.heap.size w wr) (fun i _ => 13 - (intOf i).toNat)
  case atStart => exact ⟨1, by omega, by omega, rfl, Below.refl _ _⟩
  case round =>
    obtain ⟨k, hk1, hk2, rfl, hB⟩ := hrel
    have HB := Lib.hid hB
    clear hB
    by_cases hlt : k ≤ 12
    · have hlt' : decide ((k : Int) ≤ 12) = true := by simp; omega
      go_wp2_with fail
      refine (small07 s wr hs).mono ?_
      rintro e w1 ⟨t1, rfl, hb1⟩
      have HB1 := Lib.hid (HB.out.trans (hb1.mono HB.out.size))
      clear hb1
      go_wp2_with fail
      refine (months07 w1).mono ?_
      rintro e w2 ⟨rfl, rfl⟩
      have hms := monthsB_size
      obtain ⟨p, hp⟩ : ∃ p : Nat, p = 3 * k - 3 := ⟨_, rfl⟩
      obtain ⟨q, hq⟩ : ∃ q : Nat, q = 3 * k := ⟨_, rfl⟩
      have hw1 : IntKind.i64.wrap (3 * (k : Int)) = (q : Int) := by rw [IntWalk.i64_in _ (by omega)]; omega
      have hw2 : IntKind.i64.wrap ((q : Int) - 3) = (p : Int) := by rw [IntWalk.i64_in _ (by omega)]; omega
      have hw3 : 3 * (k : Int) = (q : Int) := by omega
      have hw4 : (q : Int) - 3 = (p : Int) := by omega
      have hpq : p ≤ q := by omega
      have hq36 : q ≤ 36 := by omega
      have hq3 : (3 : Int) ≤ (q : Int) := by omega
      clear hp hq
      go_wp2_with fail
      refine (small07 _ w1 (by rw [ByteArray.size_extract, hms]; omega)).mono ?_
      rintro e w3 ⟨t2, rfl, hb3⟩
      have HB3 := Lib.hid (HB1.out.trans (hb3.mono HB1.out.size))
      clear hb3 hw1 hw2 hw3 hw4
      by_cases he : t1.toList = t2.toList
      · have he' : (t1.toList == t2.toList) = true := by simpa using he
        clear he
        go_wp2_with fail
        go_ret
        exact ⟨_, rfl, HB3.out⟩
      · have he' : (t1.toList == t2.toList) = false := by simpa using he
        clear he
        go_wp2_with fail
        go_roundw
        case rel => exact ⟨k + 1, by omega, by omega, by go_num, HB3.out⟩
        case measure => simp [intOf]; omega
    · have hlt' : decide ((k : Int) ≤ 12) = false := by simp; omega
      go_wp2_with fail
      go_ret
      exact ⟨_, rfl, HB.out⟩

/-- A number and a Boolean are returned; what was there stands. -/
def IntBool (w : World) (e : Ending) (w' : World) : Prop := ∃ (v : Int) (r : Bool), e = .returned (.tuple #[.int .i64 v, .bool r]) ∧ Below w.heap.size w w'

set_option maxHeartbeats 8000000 in
theorem ymd07 (a b c : ByteArray) (w : World) (ha : a.size ≤ 2000) (hb : b.size ≤ 2000) (hc : c.size ≤ 2000) : Calls Tryz.prog 130 #[.string a, .string b, .string c] w (IntBool w) := by
  go_enter Tryz.func130, Tryz.ntmps130
  go_wp2_with fail
  refine (num07 a 1 2 w (by omega)).mono ?_
  rintro e w1 ⟨d, rfl, rfl⟩
  go_wp2_with fail
  refine (month07 b w hb).mono ?_
  rintro e w2 ⟨m, rfl, hb2⟩
  have HB := Lib.hid hb2
  clear hb2
  go_wp2_with fail
  refine (num07 c 4 4 w2 (by omega)).mono ?_
  rintro e w3 ⟨y, rfl, rfl⟩
  by_cases h1 : d < 0
  · have h1' : decide (d < 0) = true := by simpa using h1
    go_wp2_with fail
    go_ret2
    exact ⟨_, _, rfl, HB.out⟩
  · have h1' : decide (d < 0) = false := by simpa using h1
    by_cases h2 : m = 0
    · have h2' : (m == 0) = true := by simpa using h2
      clear h2
      go_wp2_with fail
      go_ret2
      exact ⟨_, _, rfl, HB.out⟩
    · have h2' : (m == 0) = false := by simpa using h2
      by_cases h3 : y < 0
      · have h3' : decide (y < 0) = true := by simpa using h3
        go_wp2_with fail
        go_ret2
        exact ⟨_, _, rfl, HB.out⟩
      · have h3' : decide (y < 0) = false := by simpa using h3
        go_wp2_with fail
        refine (there07 y m d w2).mono ?_
        rintro e w4 ⟨r, rfl, rfl, hr⟩
        cases r
        · go_wp2_with fail
          go_ret2
          exact ⟨_, _, rfl, HB.out⟩
        · obtain ⟨y0, y1, m0, m1⟩ := hr rfl
          go_wp2_with fail
          refine (number07 y m d w2 y0 y1 m0 m1).mono ?_
          rintro e w5 ⟨n, rfl, rfl⟩
          go_wp2_with fail
          go_ret2
          exact ⟨_, _, rfl, HB.out⟩

end Go.Proofs.YtjamgkcmpcnfpaaGreatDoor

namespace Go.Proofs.YtjamgkcmpcnfpaaGreatDoor
open Go.RowKit

set_option maxHeartbeats 16000000 in
set_option maxRecDepth 100000 in
theorem clock07 (s : ByteArray) (w : World) (hs : s.size ≤ 2000) : Calls Tryz.prog 131 #[.string s, .bool false] w (IntBelow w) := by
  go_enter Tryz.func131, Tryz.ntmps131
  go_wp2_with fail
  refine (split07 s 58 w hs).mono ?_
  rintro e W1 ⟨v, n, rfl, hn1, hns, hRl, hB1⟩
  obtain ⟨g, cap, rfl, hg, hgl, _, hel⟩ := hRl.at_ (by omega)
  have Hel := Lib.hid hel
  have HB1 := Lib.hid hB1
  clear hel hRl hB1
  by_cases h3 : n = 3
  · subst h3
    obtain ⟨x0, ⟨t0, rfl, hts0⟩, _, hcell0⟩ := Hel.out 0 (by omega)
    have c0 := hcell0 0 _ rfl
    obtain ⟨x1, ⟨t1, rfl, hts1⟩, _, hcell1⟩ := Hel.out 1 (by omega)
    have c1 := hcell1 0 _ rfl
    obtain ⟨x2, ⟨t2, rfl, hts2⟩, _, hcell2⟩ := Hel.out 2 (by omega)
    have c2 := hcell2 0 _ rfl
    simp only [Nat.zero_mul, Nat.one_mul, Nat.mul_one, Nat.add_zero, Nat.zero_add] at c0 c1 c2
    clear hcell0 hcell1 hcell2 Hel
    go_wp2_with fail
    go_region_held3 (fun w' => w'.cell? ⟨g, 0, none⟩ = some (.string t0) ∧ w'.cell? ⟨g, 1, none⟩ = some (.string t1)) (first | exact ⟨c0, c1⟩ | go_keep)
      (first | (go_at_call 167; (with_reducible refine (num07 t0 2 2 _ (by omega)).mono ?_); rintro e w' ⟨v0, rfl, rfl⟩) | (go_at_call 167; (with_reducible refine (num07 t1 2 2 _ (by omega)).mono ?_); rintro e w' ⟨v1, rfl, rfl⟩))
    all_goals
      go_wp2_with fail
      refine (num07 t2 2 2 _ (by omega)).mono ?_
      rintro e w' ⟨v2, rfl, rfl⟩
      by_cases a0 : v0 < 0
      · have a0' : decide (v0 < 0) = true := by simpa using a0
        go_wp2_with fail
        go_ret
        exact ⟨_, rfl, HB1.out.drew⟩
      · have a0' : decide (v0 < 0) = false := by simpa using a0
        by_cases b0 : 23 < v0
        · have b0' : decide (23 < v0) = true := by simpa using b0
          go_wp2_with fail
          go_ret
          exact ⟨_, rfl, HB1.out.drew⟩
        · have b0' : decide (23 < v0) = false := by simpa using b0
          by_cases a1 : v1 < 0
          · have a1' : decide (v1 < 0) = true := by simpa using a1
            go_wp2_with fail
            go_ret
            exact ⟨_, rfl, HB1.out.drew⟩
          · have a1' : decide (v1 < 0) = false := by simpa using a1
            by_cases b1 : 59 < v1
            · have b1' : decide (59 < v1) = true := by simpa using b1
              go_wp2_with fail
              go_ret
              exact ⟨_, rfl, HB1.out.drew⟩
            · have b1' : decide (59 < v1) = false := by simpa using b1
              by_cases a2 : v2 < 0
              · have a2' : decide (v2 < 0) = true := by simpa using a2
                go_wp2_with fail
                go_ret
                exact ⟨_, rfl, HB1.out.drew⟩
              · have a2' : decide (v2 < 0) = false := by simpa using a2
                by_cases b2 : 59 < v2
                · have b2' : decide (59 < v2) = true := by simpa using b2
                  go_wp2_with fail
                  go_ret
                  exact ⟨_, rfl, HB1.out.drew⟩
                · have b2' : decide (59 < v2) = false := by simpa using b2
                  clear a0 b0 a1 b1 a2 b2
                  go_wp2_with fail
                  go_ret
                  exact ⟨_, rfl, HB1.out.drew⟩
  · have h3' : ((n : Int) != 3) = true := by simp; omega
    go_wp2_with fail
    go_ret
    exact ⟨_, rfl, HB1.out⟩

set_option maxHeartbeats 16000000 in
set_option maxRecDepth 100000 in
theorem zone07 (s : ByteArray) (w : World) (hs : s.size ≤ 2000) : Calls Tryz.prog 132 #[.string s] w (IntBool w) := by
  by_cases h5 : s.size = 5
  · have h5' : ((s.size : Int) != 5) = false := by simp [h5]
    have q1 : (s.extract 1 3).size ≤ 2000 := by rw [ByteArray.size_extract]; omega
    have q2 : (s.extract 3 s.size).size ≤ 2000 := by rw [ByteArray.size_extract]; omega
    have hpos : 0 < s.size := by omega
    have l5 : 5 ≤ s.size := by omega
    have z1 : (3 : Int) ≤ (s.size : Int) := by omega
    have z2 : 3 ≤ s.size := by omega
    have z3 : (0 : Int) ≤ (s.size : Int) := by omega
    have z4 : ¬ (s.size : Int) < 3 := by omega
    have z5 : ¬ s.size < 3 := by omega
    have H5 := Lib.hid h5
    clear h5
    have go : ((s[0].toNat : Int) != 43) = false ∨ ((s[0].toNat : Int) != 43) = true ∧ ((s[0].toNat : Int) != 45) = false → Calls Tryz.prog 132 #[.string s] w (IntBool w) := by
      intro hsign
      rcases hsign with e1 | ⟨e1, e2⟩
      · have e3 : ((s[0].toNat : Int) == 45) = false := by
          have : (s[0].toNat : Int) = 43 := by simpa using e1
          simp [this]
        go_enter Tryz.func132, Tryz.ntmps132
        go_wp2_with fail
        go_region_held3 (fun _ => True) (first | trivial | go_keep)
          (first | (go_at_call 167; (with_reducible refine (num07 (s.extract 1 3) 2 2 _ (by omega)).mono ?_); rintro e w' ⟨v0, rfl, rfl⟩) | (go_at_call 167; (with_reducible refine (num07 (s.extract 3 s.size) 2 2 _ (by omega)).mono ?_); rintro e w' ⟨v1, rfl, rfl⟩))
        all_goals
          by_cases a0 : v0 < 0
          · have a0' : decide (v0 < 0) = true := by simpa using a0
            go_wp2_with fail
            go_ret2
            exact ⟨_, _, rfl, (Below.refl _ _).drew⟩
          · have a0' : decide (v0 < 0) = false := by simpa using a0
            by_cases a1 : v1 < 0
            · have a1' : decide (v1 < 0) = true := by simpa using a1
              go_wp2_with fail
              go_ret2
              exact ⟨_, _, rfl, (Below.refl _ _).drew⟩
            · have a1' : decide (v1 < 0) = false := by simpa using a1
              by_cases b1 : 59 < v1
              · have b1' : decide (59 < v1) = true := by simpa using b1
                go_wp2_with fail
                go_ret2
                exact ⟨_, _, rfl, (Below.refl _ _).drew⟩
              · have b1' : decide (59 < v1) = false := by simpa using b1
                clear a0 a1 b1
                go_wp2_with fail
                go_ret2
                exact ⟨_, _, rfl, (Below.refl _ _).drew⟩
      · have e3 : ((s[0].toNat : Int) == 45) = true := by
          have : (s[0].toNat : Int) = 45 := by simpa using e2
          simp [this]
        go_enter Tryz.func132, Tryz.ntmps132
        go_wp2_with fail
        go_region_held3 (fun _ => True) (first | trivial | go_keep)
          (first | (go_at_call 167; (with_reducible refine (num07 (s.extract 1 3) 2 2 _ (by omega)).mono ?_); rintro e w' ⟨v0, rfl, rfl⟩) | (go_at_call 167; (with_reducible refine (num07 (s.extract 3 s.size) 2 2 _ (by omega)).mono ?_); rintro e w' ⟨v1, rfl, rfl⟩))
        all_goals
          by_cases a0 : v0 < 0
          · have a0' : decide (v0 < 0) = true := by simpa using a0
            go_wp2_with fail
            go_ret2
            exact ⟨_, _, rfl, (Below.refl _ _).drew⟩
          · have a0' : decide (v0 < 0) = false := by simpa using a0
            by_cases a1 : v1 < 0
            · have a1' : decide (v1 < 0) = true := by simpa using a1
              go_wp2_with fail
              go_ret2
              exact ⟨_, _, rfl, (Below.refl _ _).drew⟩
            · have a1' : decide (v1 < 0) = false := by simpa using a1
              by_cases b1 : 59 < v1
              · have b1' : decide (59 < v1) = true := by simpa using b1
                go_wp2_with fail
                go_ret2
                exact ⟨_, _, rfl, (Below.refl _ _).drew⟩
              · have b1' : decide (59 < v1) = false := by simpa using b1
                clear a0 a1 b1
                go_wp2_with fail
                go_ret2
                exact ⟨_, _, rfl, (Below.refl _ _).drew⟩
    by_cases e43 : (s[0].toNat : Int) = 43
    · exact go (.inl (by simp [e43]))
    · by_cases e45 : (s[0].toNat : Int) = 45
      · exact go (.inr ⟨by simpa using e43, by simp [e45]⟩)
      · have e1 : ((s[0].toNat : Int) != 43) = true := by simpa using e43
        have e2 : ((s[0].toNat : Int) != 45) = true := by simpa using e45
        clear e43 e45 go
        go_enter Tryz.func132, Tryz.ntmps132
        go_wp2_with fail
        go_ret2
        exact ⟨_, _, rfl, Below.refl _ _⟩
  · have h5' : ((s.size : Int) != 5) = true := by simp; omega
    clear h5
    go_enter Tryz.func132, Tryz.ntmps132
    go_wp2_with fail
    go_ret2
    exact ⟨_, _, rfl, Below.refl _ _⟩

end Go.Proofs.YtjamgkcmpcnfpaaGreatDoor

/-
  The law's 'word' and 'mild'.
  The document's 'plain' and 'formed' of names.
  The document's 'formed' of names.
  The document's 'Clean' of names.
-/
import Derived.Test.YtjamgkcmpcnfpaaGreatDoorS13
import Derived.BigQuiet
set_option linter.unusedVariables false
set_option linter.unusedSimpArgs false

namespace Go.Proofs.YtjamgkcmpcnfpaaGreatDoor
open Go.RowKit

/-- A Boolean is returned; where it is true, something holds; the world stands. -/
def Tells (Q : Prop) (w : World) (e : Ending) (w' : World) : Prop := ∃ r, e = .returned (.bool r) ∧ w = w' ∧ (r = true → Q)

theorem Tells.no {Q : Prop} {w : World} : Tells Q w (.returned (.bool false)) w := ⟨false, rfl, rfl, fun h => by cases h⟩
theorem Tells.yes {Q : Prop} {w : World} (h : Q) : Tells Q w (.returned (.bool true)) w := ⟨true, rfl, rfl, fun _ => h⟩

set_option maxHeartbeats 1000000 in
theorem mild_any (s : ByteArray) (w : World) (hs : s.size ≤ 9223372036854775806) :
    Calls Tryz.prog 15 #[.string s] w (Tells (∀ j, j < s.size → byteAt s j ≠ 93) w) := by
  go_enter Tryz.func15, Tryz.ntmps15
  go_wp2_with fail
  go_loop [3] (fun i => ∃ k : Nat, k ≤ s.size ∧ i = .int .i64 k ∧ Hid (∀ j, j < k → byteAt s j ≠ 93)) (fun i => s.size - (intOf i).toNat)
  case atStart => exact ⟨0, by omega, rfl, Lib.hid fun j hj => by omega⟩
  case round =>
    obtain ⟨k, hk, rfl, Hr⟩ := hrel
    by_cases hlt : k < s.size
    · by_cases hc : byteAt s k = 93
      · have hc' : ((s[k].toNat : Int) == 93) = true := by rw [← byteAt_of s k hlt]; simpa using hc
        go_wp2_with fail
        go_ret
        exact Tells.no
      · have hc' : ((s[k].toNat : Int) == 93) = false := by rw [← byteAt_of s k hlt]; simpa using hc
        have Hr2 : Hid (∀ j, j < k + 1 → byteAt s j ≠ 93) := Lib.hid fun j hj => if e : j = k then e ▸ hc else Hr.out j (by omega)
        clear hc
        go_wp2_with fail
        go_round
        case rel => exact ⟨k + 1, by omega, by go_num, Hr2⟩
        case measure => simp [intOf]; omega
    · go_wp2_with fail
      go_ret
      exact Tells.yes fun j hj => Hr.out j (by omega)

/-- A letter or a digit. -/
def wordB (c : Int) : Bool := (decide (97 ≤ c) && decide (c ≤ 122)) || (decide (65 ≤ c) && decide (c ≤ 90)) || (decide (48 ≤ c) && decide (c ≤ 57))

set_option maxRecDepth 100000 in
theorem or32_all : ∀ n, n < 256 → (decide (97 ≤ bits BinOp.or IntKind.u8 ((n : Nat) : Int) 32) && decide (bits BinOp.or IntKind.u8 ((n : Nat) : Int) 32 ≤ 122)) = true → wordB (n : Int) = true := by decide

theorem or32 (b : UInt8) (h1 : 97 ≤ bits BinOp.or IntKind.u8 (b.toNat : Int) 32) (h2 : bits BinOp.or IntKind.u8 (b.toNat : Int) 32 ≤ 122) : wordB (b.toNat : Int) = true :=
  or32_all b.toNat b.toNat_lt (by simp [h1, h2])

set_option maxHeartbeats 4000000 in
theorem word_any (s : ByteArray) (w : World) (hs : s.size ≤ 9223372036854775806) :
    Calls Tryz.prog 14 #[.string s] w (Tells (1 ≤ s.size ∧ s.size ≤ 40 ∧ ∀ j, j < s.size → wordB (byteAt s j) = true) w) := by
  go_enter Tryz.func14, Tryz.ntmps14
  go_wp2_with fail
  go_loop [3] (fun i => ∃ k : Nat, k ≤ s.size ∧ k ≤ 41 ∧ i = .int .i64 k ∧ Hid (∀ j, j < k → wordB (byteAt s j) = true)) (fun i => s.size - (intOf i).toNat)
  case atStart => exact ⟨0, by omega, by omega, rfl, Lib.hid fun j hj => by omega⟩
  case round =>
    obtain ⟨k, hk, hk41, rfl, Hr⟩ := hrel
    by_cases hlt : k < s.size
    · by_cases h41 : k < 41
      · have Hkey : ((97 ≤ bits BinOp.or IntKind.u8 (s[k].toNat : Int) 32 ∧ bits BinOp.or IntKind.u8 (s[k].toNat : Int) 32 ≤ 122) ∨ (48 ≤ (s[k].toNat : Int) ∧ (s[k].toNat : Int) ≤ 57)) → Hid (∀ j, j < k + 1 → wordB (byteAt s j) = true) := by
          intro h
          refine Lib.hid fun j hj => ?_
          by_cases e : j = k
          · subst e
            rw [byteAt_of s j hlt]
            rcases h with ⟨a, b⟩ | ⟨a, b⟩
            · exact or32 _ a b
            · simp [wordB, a, b]
          · exact Hr.out j (by omega)
        have HK := Lib.hid Hkey; clear Hkey
        go_wp2_with fail
        all_goals
          first
          | (go_ret; exact Tells.no)
          | exact ⟨⟨k + 1, by omega, by omega, by go_num, HK.out (by omega)⟩, by simp [intOf]; omega⟩
      · have h1 : decide ((1 : Int) ≤ (s.size : Int)) = true := by simp; omega
        have h2 : decide ((s.size : Int) ≤ 40) = false := by simp; omega
        go_wp2_with fail
        go_ret
        exact Tells.no
    · have e : k = s.size := by omega
      subst e
      by_cases h1 : 1 ≤ s.size
      · by_cases h2 : s.size ≤ 40
        · have h1' : decide ((1 : Int) ≤ (s.size : Int)) = true := by simp; omega
          have h2' : decide ((s.size : Int) ≤ 40) = true := by simp; omega
          go_wp2_with fail
          go_ret
          first | exact Tells.yes ⟨h1, h2, Hr.out⟩ | exact Tells.yes Hr.out
        · have h1' : decide ((1 : Int) ≤ (s.size : Int)) = true := by simp; omega
          have h2' : decide ((s.size : Int) ≤ 40) = false := by simp; omega
          go_wp2_with fail
          go_ret
          exact Tells.no
      · have h1' : decide ((1 : Int) ≤ (s.size : Int)) = false := by simp; omega
        go_wp2_with fail
        go_ret
        exact Tells.no

end Go.Proofs.YtjamgkcmpcnfpaaGreatDoor

namespace Go.Proofs.YtjamgkcmpcnfpaaGreatDoor
open Go.RowKit

/-- May a byte be in a name? -/
def plainB (c : Int) : Bool := decide (32 < c) && decide (c ≤ 126) && (c != 40) && (c != 41) && (c != 123) && (c != 37) && (c != 42) && (c != 34) && (c != 92)

set_option maxHeartbeats 4000000 in
theorem plain_any (c : Int) (w : World) : Calls Tryz.prog 55 #[.int .u8 c] w fun e w' => e = .returned (.bool (plainB c)) ∧ w = w' := by
  unfold plainB
  by_cases h1 : 32 < c
  · by_cases h2 : c ≤ 126
    · by_cases h3 : c = 40
      · subst h3
        go_enter Tryz.func55, Tryz.ntmps55
        go_wp2_with fail
        go_ret
        exact ⟨rfl, rfl⟩
      · by_cases h4 : c = 41
        · subst h4
          go_enter Tryz.func55, Tryz.ntmps55
          go_wp2_with fail
          go_ret
          exact ⟨rfl, rfl⟩
        · by_cases h5 : c = 123
          · subst h5
            go_enter Tryz.func55, Tryz.ntmps55
            go_wp2_with fail
            go_ret
            exact ⟨rfl, rfl⟩
          · by_cases h6 : c = 37
            · subst h6
              go_enter Tryz.func55, Tryz.ntmps55
              go_wp2_with fail
              go_ret
              exact ⟨rfl, rfl⟩
            · by_cases h7 : c = 42
              · subst h7
                go_enter Tryz.func55, Tryz.ntmps55
                go_wp2_with fail
                go_ret
                exact ⟨rfl, rfl⟩
              · by_cases h8 : c = 34
                · subst h8
                  go_enter Tryz.func55, Tryz.ntmps55
                  go_wp2_with fail
                  go_ret
                  exact ⟨rfl, rfl⟩
                · by_cases h9 : c = 92
                  · subst h9
                    go_enter Tryz.func55, Tryz.ntmps55
                    go_wp2_with fail
                    go_ret
                    exact ⟨rfl, rfl⟩
                  · have k1 : decide (32 < c) = true := by simpa using h1
                    have k2 : decide (c ≤ 126) = true := by simpa using h2
                    have k3 : (c != 40) = true := by simpa using h3
                    have k4 : (c != 41) = true := by simpa using h4
                    have k5 : (c != 123) = true := by simpa using h5
                    have k6 : (c != 37) = true := by simpa using h6
                    have k7 : (c != 42) = true := by simpa using h7
                    have k8 : (c != 34) = true := by simpa using h8
                    have k9 : (c != 92) = true := by simpa using h9
                    rw [k1, k2, k3, k4, k5, k6, k7, k8, k9]
                    clear h1 h2 h3 h4 h5 h6 h7 h8 h9
                    go_enter Tryz.func55, Tryz.ntmps55
                    go_wp2_with fail
                    go_ret
                    exact ⟨rfl, rfl⟩
    · have k1 : decide (32 < c) = true := by simpa using h1
      have k2 : decide (c ≤ 126) = false := by simpa using h2
      rw [k1, k2]
      clear h1 h2
      go_enter Tryz.func55, Tryz.ntmps55
      go_wp2_with fail
      go_ret
      exact ⟨rfl, rfl⟩
  · have k1 : decide (32 < c) = false := by simpa using h1
    rw [k1]
    clear h1
    go_enter Tryz.func55, Tryz.ntmps55
    go_wp2_with fail
    go_ret
    exact ⟨rfl, rfl⟩

/-- How many '/' are among the first bytes? -/
def slashes (s : ByteArray) (k : Nat) : Nat := ((s.data.toList.take k).filter (· == 47)).length

theorem slashes_succ (s : ByteArray) (k : Nat) (h : k < s.size) : slashes s (k + 1) = slashes s k + if byteAt s k = 47 then 1 else 0 := by
  have h' : k < s.data.toList.length := by rw [← size_bytes]; exact h
  have e : byteAt s k = (s.data.toList[k].toNat : Int) := by
    unfold byteAt; rw [List.getD_eq_getElem?_getD, List.getElem?_eq_getElem h']; rfl
  unfold slashes
  rw [List.take_add_one, List.getElem?_eq_getElem h', e]
  generalize s.data.toList[k] = c
  by_cases hc : c = 47
  · subst hc; simp
  · have : ¬ ((c.toNat : Int) = 47) := fun h => hc (by apply UInt8.toNat_inj.1; simp; omega)
    simp [hc, this]

/-- What 'formed' looks at, of the byte at a place. -/
def spotOk (s : ByteArray) (j : Nat) : Prop := plainB (byteAt s j) = true ∧ (byteAt s j = 47 → j ≠ 0 ∧ j + 1 ≠ s.size ∧ byteAt s (j - 1) ≠ 47)

end Go.Proofs.YtjamgkcmpcnfpaaGreatDoor

namespace Go.Proofs.YtjamgkcmpcnfpaaGreatDoor
open Go.RowKit

/-- What 'formed' tells of a name. -/
def FormedP (s : ByteArray) : Prop := 1 ≤ s.size ∧ s.size ≤ 40 ∧ (∀ j, j < s.size → spotOk s j) ∧ slashes s s.size ≤ 3

set_option maxHeartbeats 4000000 in
set_option maxRecDepth 100000 in
theorem formed_any (s : ByteArray) (w : World) (hs : s.size ≤ 9223372036854775806) : Calls Tryz.prog 28 #[.string s] w (Tells (FormedP s) w) := by
  by_cases h1 : (s.size : Int) < 1
  · have k1 : decide ((s.size : Int) < 1) = true := by simpa using h1
    clear h1
    generalize FormedP s = Q
    go_enter Tryz.func28, Tryz.ntmps28
    go_wp2_with fail
    go_ret
    exact Tells.no
  · have k1 : decide ((s.size : Int) < 1) = false := by simpa using h1
    by_cases h2 : (40 : Int) < (s.size : Int)
    · have k2 : decide ((40 : Int) < (s.size : Int)) = true := by simpa using h2
      clear h1 h2
      generalize FormedP s = Q
      go_enter Tryz.func28, Tryz.ntmps28
      go_wp2_with fail
      go_ret
      exact Tells.no
    · have k2 : decide ((40 : Int) < (s.size : Int)) = false := by simpa using h2
      have h40 : s.size ≤ 40 := by omega
      have h01 : 1 ≤ s.size := by omega
      clear h1 h2
      have HQ : ∀ Q, FormedP s = Q → Hid ((∀ j, j < s.size → spotOk s j) → slashes s s.size ≤ 3 → Q) := by
        rintro Q rfl
        exact Lib.hid fun a b => ⟨h01, h40, a, b⟩
      generalize hQ : FormedP s = Q at *
      have HQ2 := HQ _ rfl
      clear HQ hQ
      go_enter Tryz.func28, Tryz.ntmps28
      go_wp2_with fail
      clear k1 k2
      go_loop [3, 4] (fun p i => ∃ (k : Nat) (q : Int), k ≤ s.size ∧ i = .int .i64 k ∧ p = .int .i64 q ∧ 1 ≤ q ∧ q ≤ k + 1 ∧ Hid (q = ((slashes s k + 1 : Nat) : Int)) ∧ Hid (∀ j, j < k → spotOk s j)) (fun _ i => s.size - (intOf i).toNat)
      case atStart => exact ⟨0, 1, by omega, rfl, rfl, by omega, by omega, Lib.hid rfl, Lib.hid fun j hj => by omega⟩
      case round =>
        obtain ⟨k, q, hk, rfl, rfl, hq1, hq2, Hq, Hr⟩ := hrel
        by_cases hlt : k < s.size
        · have hss := slashes_succ s k hlt
          have hb := byteAt_of s k hlt
          have HB := Lib.hid hb
          have HS := Lib.hid hss; clear hss
          by_cases hp : plainB (s[k].toNat : Int) = true
          · by_cases hc : (s[k].toNat : Int) = 47
            · have hc' : ((s[k].toNat : Int) == 47) = true := by simpa using hc
              cases k with
              | zero =>
                have Hp := Lib.hid hp; clear hp
                clear hc hb
                go_wp2_with (go_at_call 55; refine (plain_any _ _).mono ?_; rintro e w' ⟨rfl, rfl⟩; rw [Hp.out])
                go_ret
                exact Tells.no
              | succ k =>
                have Hp := Lib.hid hp; clear hp
                have Hc := Lib.hid hc; clear hc
                by_cases hl : (k : Int) + 1 = (s.size : Int) - 1
                · clear hb
                  have k1 : ((k : Int) + 1 == (s.size : Int) - 1) = true := by simpa using hl
                  clear hl
                  go_wp2_with (go_at_call 55; refine (plain_any _ _).mono ?_; rintro e w' ⟨rfl, rfl⟩; rw [Hp.out])
                  go_ret
                  exact Tells.no
                · have k1 : ((k : Int) + 1 == (s.size : Int) - 1) = false := by simpa using hl
                  have hlast : k + 1 + 1 ≠ s.size := by omega
                  have Hlast := Lib.hid hlast
                  clear hl hlast
                  have hb2 := byteAt_of s k (by omega)
                  have hlt2 : k < s.size := by omega
                  by_cases hc2 : (s[k].toNat : Int) = 47
                  · have hc2' : ((s[k].toNat : Int) == 47) = true := by simpa using hc2
                    clear hb hb2 hc2
                    go_wp2_with (go_at_call 55; refine (plain_any _ _).mono ?_; rintro e w' ⟨rfl, rfl⟩; rw [Hp.out])
                    go_ret
                    exact Tells.no
                  · have hc2' : ((s[k].toNat : Int) == 47) = false := by simpa using hc2
                    have Hr2 : Hid (∀ j, j < k + 1 + 1 → spotOk s j) := Lib.hid fun j hj =>
                      if e : j = k + 1 then e ▸ ⟨by rw [hb]; exact Hp.out, fun _ => ⟨by omega, Hlast.out, fun h => hc2 (by rw [← hb2]; exact h)⟩⟩ else Hr.out j (by omega)
                    have Hq2 : Hid (q + 1 = ((slashes s (k + 1 + 1) + 1 : Nat) : Int)) := Lib.hid (by rw [HS.out, hb, if_pos Hc.out, Hq.out]; omega)
                    clear hb hb2 hc2
                    go_wp2_with (go_at_call 55; refine (plain_any _ _).mono ?_; rintro e w' ⟨rfl, rfl⟩; rw [Hp.out])
                    go_round
                    case rel => exact ⟨k + 1 + 1, q + 1, by omega, by go_num, rfl, by omega, by omega, Hq2, Hr2⟩
                    case measure => simp [intOf]; omega
            · have hc' : ((s[k].toNat : Int) == 47) = false := by simpa using hc
              have Hr2 : Hid (∀ j, j < k + 1 → spotOk s j) := Lib.hid fun j hj => if e : j = k then e ▸ ⟨by rw [hb]; exact hp, fun h => absurd (hb.symm.trans h) hc⟩ else Hr.out j (by omega)
              have Hq2 : Hid (q = ((slashes s (k + 1) + 1 : Nat) : Int)) := Lib.hid (by have h1 := HS.out; rw [hb, if_neg hc] at h1; have h2 := Hq.out; omega)
              have Hp := Lib.hid hp; clear hp
              clear hc hb
              go_wp2_with (go_at_call 55; refine (plain_any _ _).mono ?_; rintro e w' ⟨rfl, rfl⟩; rw [Hp.out])
              go_round
              case rel => exact ⟨k + 1, q, by omega, by go_num, rfl, by omega, by omega, Hq2, Hr2⟩
              case measure => simp [intOf]; omega
          · have hp' : plainB (s[k].toNat : Int) = false := by simpa using hp
            have Hp := Lib.hid hp'; clear hp hp' hb
            go_wp2_with (go_at_call 55; refine (plain_any _ _).mono ?_; rintro e w' ⟨rfl, rfl⟩; rw [Hp.out])
            go_ret
            exact Tells.no
        · have e : k = s.size := by omega
          subst e
          by_cases h4 : q ≤ 4
          · have k4 : decide (q ≤ 4) = true := by simpa using h4
            have h5 : slashes s s.size ≤ 3 := by have := Hq.out; omega
            have H5 := Lib.hid h5; clear h4 h5
            go_wp2_with fail
            go_ret
            exact Tells.yes (HQ2.out Hr.out H5.out)
          · have k4 : decide (q ≤ 4) = false := by simpa using h4
            clear h4
            go_wp2_with fail
            go_ret
            exact Tells.no

end Go.Proofs.YtjamgkcmpcnfpaaGreatDoor

namespace Go.Proofs.YtjamgkcmpcnfpaaGreatDoor
open Go.RowKit

/-- A byte, large. -/
def upB (c : Int) : Int := if 97 ≤ c ∧ c ≤ 122 then c - 32 else c

def inboxL : ByteArray := ⟨#[73, 78, 66, 79, 88]⟩

/-- Does a name begin with INBOX, in letters of whatever form? -/
def InboxP (s : ByteArray) : Prop := 5 ≤ s.size ∧ (s.size = 5 ∨ byteAt s 5 = 47) ∧ ∀ j, j < 5 → upB (byteAt s j) = byteAt inboxL j

/-- What 'Clean' gives. -/
def CleanG (s t : ByteArray) : Prop := (InboxP s ∧ t = inboxL ++ s.extract 5 s.size) ∨ (¬ InboxP s ∧ t = s)

def CleanP (s : ByteArray) (w : World) (e : Ending) (w' : World) : Prop := ∃ t n, e = .returned (.tuple #[.string t, .int .i64 n]) ∧ w = w' ∧ (n = 0 → FormedP s ∧ CleanG s t)

theorem CleanP.no (s : ByteArray) (w : World) : CleanP s w (.returned (.tuple #[.string ⟨#[]⟩, .int .i64 3])) w := ⟨_, 3, rfl, rfl, fun h => by cases h⟩
theorem CleanP.same {s : ByteArray} {w : World} (h : FormedP s) (hn : ¬ InboxP s) : CleanP s w (.returned (.tuple #[.string s, .int .i64 0])) w := ⟨_, 0, rfl, rfl, fun _ => ⟨h, .inr ⟨hn, rfl⟩⟩⟩
theorem CleanP.inbox {s : ByteArray} {w : World} (h : FormedP s) (hn : InboxP s) : CleanP s w (.returned (.tuple #[.string (inboxL ++ s.extract 5 s.size), .int .i64 0])) w := ⟨_, 0, rfl, rfl, fun _ => ⟨h, .inl ⟨hn, rfl⟩⟩⟩

set_option maxHeartbeats 8000000 in
set_option maxRecDepth 100000 in
theorem Clean10_any (s : ByteArray) (w : World) (hs : s.size ≤ 9223372036854775806) : Calls Tryz.prog 12 #[.string s] w (CleanP s w) := by
  have hF := formed_any s w hs
  have HF := Lib.hid hF; clear hF
  go_enter Tryz.func12, Tryz.ntmps12
  go_wp2_with fail
  refine HF.out.mono ?_
  rintro e w1 ⟨r, rfl, rfl, hr⟩
  cases r with
  | false =>
    go_wp2_with fail
    go_ret2
    exact CleanP.no s w
  | true =>
    have hFP := hr rfl
    have HFP := Lib.hid hFP
    have hsz40 := hFP.2.1
    clear hr hFP
    by_cases h5 : (s.size : Int) < 5
    · have HN : Hid (¬ InboxP s) := Lib.hid fun h => by have := h.1; omega
      have k1 : decide ((s.size : Int) < 5) = true := by simpa using h5
      clear h5
      go_wp2_with fail
      go_ret2
      exact CleanP.same HFP.out HN.out
    · have k1 : decide ((s.size : Int) < 5) = false := by simpa using h5
      have h5' : 5 ≤ s.size := by omega
      clear h5
      by_cases h6 : (5 : Int) < (s.size : Int)
      · by_cases h7 : byteAt s 5 = 47
        · have k2 : decide ((5 : Int) < (s.size : Int)) = true := by simpa using h6
          have k3 : (((s[5]'(by omega)).toNat : Int) != 47) = false := by rw [← byteAt_of s 5 (by omega)]; simpa using h7
          have Hend : Hid (s.size = 5 ∨ byteAt s 5 = 47) := Lib.hid (.inr h7)
          clear h7
          go_wp2_with fail
          clear k1 k2 k3
          go_loop [4] (fun i => ∃ k : Nat, k ≤ 5 ∧ i = .int .i64 k ∧ Hid (∀ j, j < k → upB (byteAt s j) = byteAt inboxL j)) (fun i => 5 - (intOf i).toNat)
          case atStart => exact ⟨0, by omega, rfl, Lib.hid fun j hj => by omega⟩
          case round =>
            obtain ⟨k, hk, rfl, Hr⟩ := hrel
            have hkc : k = 0 ∨ k = 1 ∨ k = 2 ∨ k = 3 ∨ k = 4 ∨ k = 5 := by omega
            rcases hkc with rfl | rfl | rfl | rfl | rfl | rfl
            · have hks : 0 < s.size := by omega
              have hb := byteAt_of s 0 hks
              by_cases hl : 97 ≤ ((s[0]'hks).toNat : Int)
              · by_cases hu : ((s[0]'hks).toNat : Int) ≤ 122
                · have HU : Hid (upB (byteAt s 0) = ((s[0]'hks).toNat : Int) - 32) := Lib.hid (by rw [hb]; unfold upB; rw [if_pos ⟨hl, hu⟩])
                  have m1 : decide (97 ≤ ((s[0]'hks).toNat : Int)) = true := by simpa using hl
                  have m2 : decide (((s[0]'hks).toNat : Int) ≤ 122) = true := by simpa using hu
                  by_cases hd : ((s[0]'hks).toNat : Int) - 32 = 73
                  · have m3 : ((((s[0]'hks).toNat : Int) - 32) != (((⟨#[73, 78, 66, 79, 88]⟩ : ByteArray)[0]'(by decide)).toNat : Int)) = false := by show ((((s[0]'hks).toNat : Int) - 32) != 73) = false; simpa using hd
                    have Hr2 : Hid (∀ j, j < 1 → upB (byteAt s j) = byteAt inboxL j) := Lib.hid fun j hj => if e : j = 0 then by subst e; rw [HU.out]; exact hd else Hr.out j (by omega)
                    clear hd hb
                    go_wp2_with fail
                    go_round
                    case rel => exact ⟨1, by omega, by go_num, Hr2⟩
                    case measure => simp [intOf]
                  · have m3 : ((((s[0]'hks).toNat : Int) - 32) != (((⟨#[73, 78, 66, 79, 88]⟩ : ByteArray)[0]'(by decide)).toNat : Int)) = true := by show ((((s[0]'hks).toNat : Int) - 32) != 73) = true; simpa using hd
                    have HN : Hid (¬ InboxP s) := Lib.hid fun h => hd (by have := h.2.2 0 (by omega); rw [HU.out] at this; exact this)
                    clear hd hb
                    go_wp2_with fail
                    go_ret2
                    exact CleanP.same HFP.out HN.out
                · have HU : Hid (upB (byteAt s 0) = ((s[0]'hks).toNat : Int)) := Lib.hid (by rw [hb]; unfold upB; rw [if_neg (by omega)])
                  have m1 : decide (97 ≤ ((s[0]'hks).toNat : Int)) = true := by simpa using hl
                  have m2 : decide (((s[0]'hks).toNat : Int) ≤ 122) = false := by simpa using hu
                  by_cases hd : ((s[0]'hks).toNat : Int) = 73
                  · have m3 : ((((s[0]'hks).toNat : Int)) != (((⟨#[73, 78, 66, 79, 88]⟩ : ByteArray)[0]'(by decide)).toNat : Int)) = false := by show ((((s[0]'hks).toNat : Int)) != 73) = false; simpa using hd
                    have Hr2 : Hid (∀ j, j < 1 → upB (byteAt s j) = byteAt inboxL j) := Lib.hid fun j hj => if e : j = 0 then by subst e; rw [HU.out]; exact hd else Hr.out j (by omega)
                    clear hd hb
                    go_wp2_with fail
                    go_round
                    case rel => exact ⟨1, by omega, by go_num, Hr2⟩
                    case measure => simp [intOf]
                  · have m3 : ((((s[0]'hks).toNat : Int)) != (((⟨#[73, 78, 66, 79, 88]⟩ : ByteArray)[0]'(by decide)).toNat : Int)) = true := by show ((((s[0]'hks).toNat : Int)) != 73) = true; simpa using hd
                    have HN : Hid (¬ InboxP s) := Lib.hid fun h => hd (by have := h.2.2 0 (by omega); rw [HU.out] at this; exact this)
                    clear hd hb
                    go_wp2_with fail
                    go_ret2
                    exact CleanP.same HFP.out HN.out
              · have HU : Hid (upB (byteAt s 0) = ((s[0]'hks).toNat : Int)) := Lib.hid (by rw [hb]; unfold upB; rw [if_neg (by omega)])
                have m1 : decide (97 ≤ ((s[0]'hks).toNat : Int)) = false := by simpa using hl
                by_cases hd : ((s[0]'hks).toNat : Int) = 73
                · have m3 : ((((s[0]'hks).toNat : Int)) != (((⟨#[73, 78, 66, 79, 88]⟩ : ByteArray)[0]'(by decide)).toNat : Int)) = false := by show ((((s[0]'hks).toNat : Int)) != 73) = false; simpa using hd
                  have Hr2 : Hid (∀ j, j < 1 → upB (byteAt s j) = byteAt inboxL j) := Lib.hid fun j hj => if e : j = 0 then by subst e; rw [HU.out]; exact hd else Hr.out j (by omega)
                  clear hd hb
                  go_wp2_with fail
                  go_round
                  case rel => exact ⟨1, by omega, by go_num, Hr2⟩
                  case measure => simp [intOf]
                · have m3 : ((((s[0]'hks).toNat : Int)) != (((⟨#[73, 78, 66, 79, 88]⟩ : ByteArray)[0]'(by decide)).toNat : Int)) = true := by show ((((s[0]'hks).toNat : Int)) != 73) = true; simpa using hd
                  have HN : Hid (¬ InboxP s) := Lib.hid fun h => hd (by have := h.2.2 0 (by omega); rw [HU.out] at this; exact this)
                  clear hd hb
                  go_wp2_with fail
                  go_ret2
                  exact CleanP.same HFP.out HN.out
            · have hks : 1 < s.size := by omega
              have hb := byteAt_of s 1 hks
              by_cases hl : 97 ≤ ((s[1]'hks).toNat : Int)
              · by_cases hu : ((s[1]'hks).toNat : Int) ≤ 122
                · have HU : Hid (upB (byteAt s 1) = ((s[1]'hks).toNat : Int) - 32) := Lib.hid (by rw [hb]; unfold upB; rw [if_pos ⟨hl, hu⟩])
                  have m1 : decide (97 ≤ ((s[1]'hks).toNat : Int)) = true := by simpa using hl
                  have m2 : decide (((s[1]'hks).toNat : Int) ≤ 122) = true := by simpa using hu
                  by_cases hd : ((s[1]'hks).toNat : Int) - 32 = 78
                  · have m3 : ((((s[1]'hks).toNat : Int) - 32) != (((⟨#[73, 78, 66, 79, 88]⟩ : ByteArray)[1]'(by decide)).toNat : Int)) = false := by show ((((s[1]'hks).toNat : Int) - 32) != 78) = false; simpa using hd
                    have Hr2 : Hid (∀ j, j < 2 → upB (byteAt s j) = byteAt inboxL j) := Lib.hid fun j hj => if e : j = 1 then by subst e; rw [HU.out]; exact hd else Hr.out j (by omega)
                    clear hd hb
                    go_wp2_with fail
                    go_round
                    case rel => exact ⟨2, by omega, by go_num, Hr2⟩
                    case measure => simp [intOf]
                  · have m3 : ((((s[1]'hks).toNat : Int) - 32) != (((⟨#[73, 78, 66, 79, 88]⟩ : ByteArray)[1]'(by decide)).toNat : Int)) = true := by show ((((s[1]'hks).toNat : Int) - 32) != 78) = true; simpa using hd
                    have HN : Hid (¬ InboxP s) := Lib.hid fun h => hd (by have := h.2.2 1 (by omega); rw [HU.out] at this; exact this)
                    clear hd hb
                    go_wp2_with fail
                    go_ret2
                    exact CleanP.same HFP.out HN.out
                · have HU : Hid (upB (byteAt s 1) = ((s[1]'hks).toNat : Int)) := Lib.hid (by rw [hb]; unfold upB; rw [if_neg (by omega)])
                  have m1 : decide (97 ≤ ((s[1]'hks).toNat : Int)) = true := by simpa using hl
                  have m2 : decide (((s[1]'hks).toNat : Int) ≤ 122) = false := by simpa using hu
                  by_cases hd : ((s[1]'hks).toNat : Int) = 78
                  · have m3 : ((((s[1]'hks).toNat : Int)) != (((⟨#[73, 78, 66, 79, 88]⟩ : ByteArray)[1]'(by decide)).toNat : Int)) = false := by show ((((s[1]'hks).toNat : Int)) != 78) = false; simpa using hd
                    have Hr2 : Hid (∀ j, j < 2 → upB (byteAt s j) = byteAt inboxL j) := Lib.hid fun j hj => if e : j = 1 then by subst e; rw [HU.out]; exact hd else Hr.out j (by omega)
                    clear hd hb
                    go_wp2_with fail
                    go_round
                    case rel => exact ⟨2, by omega, by go_num, Hr2⟩
                    case measure => simp [intOf]
                  · have m3 : ((((s[1]'hks).toNat : Int)) != (((⟨#[73, 78, 66, 79, 88]⟩ : ByteArray)[1]'(by decide)).toNat : Int)) = true := by show ((((s[1]'hks).toNat : Int)) != 78) = true; simpa using hd
                    have HN : Hid (¬ InboxP s) := Lib.hid fun h => hd (by have := h.2.2 1 (by omega); rw [HU.out] at this; exact this)
                    clear hd hb
                    go_wp2_with fail
                    go_ret2
                    exact CleanP.same HFP.out HN.out
              · have HU : Hid (upB (byteAt s 1) = ((s[1]'hks).toNat : Int)) := Lib.hid (by rw [hb]; unfold upB; rw [if_neg (by omega)])
                have m1 : decide (97 ≤ ((s[1]'hks).toNat : Int)) = false := by simpa using hl
                by_cases hd : ((s[1]'hks).toNat : Int) = 78
                · have m3 : ((((s[1]'hks).toNat : Int)) != (((⟨#[73, 78, 66, 79, 88]⟩ : ByteArray)[1]'(by decide)).toNat : Int)) = false := by show ((((s[1]'hks).toNat : Int)) != 78) = false; simpa using hd
                  have Hr2 : Hid (∀ j, j < 2 → upB (byteAt s j) = byteAt inboxL j) := Lib.hid fun j hj => if e : j = 1 then by subst e; rw [HU.out]; exact hd else Hr.out j (by omega)
                  clear hd hb
                  go_wp2_with fail
                  go_round
                  case rel => exact ⟨2, by omega, by go_num, Hr2⟩
                  case measure => simp [intOf]
                · have m3 : ((((s[1]'hks).toNat : Int)) != (((⟨#[73, 78, 66, 79, 88]⟩ : ByteArray)[1]'(by decide)).toNat : Int)) = true := by show ((((s[1]'hks).toNat : Int)) != 78) = true; simpa using hd
                  have HN : Hid (¬ InboxP s) := Lib.hid fun h => hd (by have := h.2.2 1 (by omega); rw [HU.out] at this; exact this)
                  clear hd hb
                  go_wp2_with fail
                  go_ret2
                  exact CleanP.same HFP.out HN.out
            · have hks : 2 < s.size := by omega
              have hb := byteAt_of s 2 hks
              by_cases hl : 97 ≤ ((s[2]'hks).toNat : Int)
              · by_cases hu : ((s[2]'hks).toNat : Int) ≤ 122
                · have HU : Hid (upB (byteAt s 2) = ((s[2]'hks).toNat : Int) - 32) := Lib.hid (by rw [hb]; unfold upB; rw [if_pos ⟨hl, hu⟩])
                  have m1 : decide (97 ≤ ((s[2]'hks).toNat : Int)) = true := by simpa using hl
                  have m2 : decide (((s[2]'hks).toNat : Int) ≤ 122) = true := by simpa using hu
                  by_cases hd : ((s[2]'hks).toNat : Int) - 32 = 66
                  · have m3 : ((((s[2]'hks).toNat : Int) - 32) != (((⟨#[73, 78, 66, 79, 88]⟩ : ByteArray)[2]'(by decide)).toNat : Int)) = false := by show ((((s[2]'hks).toNat : Int) - 32) != 66) = false; simpa using hd
                    have Hr2 : Hid (∀ j, j < 3 → upB (byteAt s j) = byteAt inboxL j) := Lib.hid fun j hj => if e : j = 2 then by subst e; rw [HU.out]; exact hd else Hr.out j (by omega)
                    clear hd hb
                    go_wp2_with fail
                    go_round
                    case rel => exact ⟨3, by omega, by go_num, Hr2⟩
                    case measure => simp [intOf]
                  · have m3 : ((((s[2]'hks).toNat : Int) - 32) != (((⟨#[73, 78, 66, 79, 88]⟩ : ByteArray)[2]'(by decide)).toNat : Int)) = true := by show ((((s[2]'hks).toNat : Int) - 32) != 66) = true; simpa using hd
                    have HN : Hid (¬ InboxP s) := Lib.hid fun h => hd (by have := h.2.2 2 (by omega); rw [HU.out] at this; exact this)
                    clear hd hb
                    go_wp2_with fail
                    go_ret2
                    exact CleanP.same HFP.out HN.out
                · have HU : Hid (upB (byteAt s 2) = ((s[2]'hks).toNat : Int)) := Lib.hid (by rw [hb]; unfold upB; rw [if_neg (by omega)])
                  have m1 : decide (97 ≤ ((s[2]'hks).toNat : Int)) = true := by simpa using hl
                  have m2 : decide (((s[2]'hks).toNat : Int) ≤ 122) = false := by simpa using hu
                  by_cases hd : ((s[2]'hks).toNat : Int) = 66
                  · have m3 : ((((s[2]'hks).toNat : Int)) != (((⟨#[73, 78, 66, 79, 88]⟩ : ByteArray)[2]'(by decide)).toNat : Int)) = false := by show ((((s[2]'hks).toNat : Int)) != 66) = false; simpa using hd
                    have Hr2 : Hid (∀ j, j < 3 → upB (byteAt s j) = byteAt inboxL j) := Lib.hid fun j hj => if e : j = 2 then by subst e; rw [HU.out]; exact hd else Hr.out j (by omega)
                    clear hd hb
                    go_wp2_with fail
                    go_round
                    case rel => exact ⟨3, by omega, by go_num, Hr2⟩
                    case measure => simp [intOf]
                  · have m3 : ((((s[2]'hks).toNat : Int)) != (((⟨#[73, 78, 66, 79, 88]⟩ : ByteArray)[2]'(by decide)).toNat : Int)) = true := by show ((((s[2]'hks).toNat : Int)) != 66) = true; simpa using hd
                    have HN : Hid (¬ InboxP s) := Lib.hid fun h => hd (by have := h.2.2 2 (by omega); rw [HU.out] at this; exact this)
                    clear hd hb
                    go_wp2_with fail
                    go_ret2
                    exact CleanP.same HFP.out HN.out
              · have HU : Hid (upB (byteAt s 2) = ((s[2]'hks).toNat : Int)) := Lib.hid (by rw [hb]; unfold upB; rw [if_neg (by omega)])
                have m1 : decide (97 ≤ ((s[2]'hks).toNat : Int)) = false := by simpa using hl
                by_cases hd : ((s[2]'hks).toNat : Int) = 66
                · have m3 : ((((s[2]'hks).toNat : Int)) != (((⟨#[73, 78, 66, 79, 88]⟩ : ByteArray)[2]'(by decide)).toNat : Int)) = false := by show ((((s[2]'hks).toNat : Int)) != 66) = false; simpa using hd
                  have Hr2 : Hid (∀ j, j < 3 → upB (byteAt s j) = byteAt inboxL j) := Lib.hid fun j hj => if e : j = 2 then by subst e; rw [HU.out]; exact hd else Hr.out j (by omega)
                  clear hd hb
                  go_wp2_with fail
                  go_round
                  case rel => exact ⟨3, by omega, by go_num, Hr2⟩
                  case measure => simp [intOf]
                · have m3 : ((((s[2]'hks).toNat : Int)) != (((⟨#[73, 78, 66, 79, 88]⟩ : ByteArray)[2]'(by decide)).toNat : Int)) = true := by show ((((s[2]'hks).toNat : Int)) != 66) = true; simpa using hd
                  have HN : Hid (¬ InboxP s) := Lib.hid fun h => hd (by have := h.2.2 2 (by omega); rw [HU.out] at this; exact this)
                  clear hd hb
                  go_wp2_with fail
                  go_ret2
                  exact CleanP.same HFP.out HN.out
            · have hks : 3 < s.size := by omega
              have hb := byteAt_of s 3 hks
              by_cases hl : 97 ≤ ((s[3]'hks).toNat : Int)
              · by_cases hu : ((s[3]'hks).toNat : Int) ≤ 122
                · have HU : Hid (upB (byteAt s 3) = ((s[3]'hks).toNat : Int) - 32) := Lib.hid (by rw [hb]; unfold upB; rw [if_pos ⟨hl, hu⟩])
                  have m1 : decide (97 ≤ ((s[3]'hks).toNat : Int)) = true := by simpa using hl
                  have m2 : decide (((s[3]'hks).toNat : Int) ≤ 122) = true := by simpa using hu
                  by_cases hd : ((s[3]'hks).toNat : Int) - 32 = 79
                  · have m3 : ((((s[3]'hks).toNat : Int) - 32) != (((⟨#[73, 78, 66, 79, 88]⟩ : ByteArray)[3]'(by decide)).toNat : Int)) = false := by show ((((s[3]'hks).toNat : Int) - 32) != 79) = false; simpa using hd
                    have Hr2 : Hid (∀ j, j < 4 → upB (byteAt s j) = byteAt inboxL j) := Lib.hid fun j hj => if e : j = 3 then by subst e; rw [HU.out]; exact hd else Hr.out j (by omega)
                    clear hd hb
                    go_wp2_with fail
                    go_round
                    case rel => exact ⟨4, by omega, by go_num, Hr2⟩
                    case measure => simp [intOf]
                  · have m3 : ((((s[3]'hks).toNat : Int) - 32) != (((⟨#[73, 78, 66, 79, 88]⟩ : ByteArray)[3]'(by decide)).toNat : Int)) = true := by show ((((s[3]'hks).toNat : Int) - 32) != 79) = true; simpa using hd
                    have HN : Hid (¬ InboxP s) := Lib.hid fun h => hd (by have := h.2.2 3 (by omega); rw [HU.out] at this; exact this)
                    clear hd hb
                    go_wp2_with fail
                    go_ret2
                    exact CleanP.same HFP.out HN.out
                · have HU : Hid (upB (byteAt s 3) = ((s[3]'hks).toNat : Int)) := Lib.hid (by rw [hb]; unfold upB; rw [if_neg (by omega)])
                  have m1 : decide (97 ≤ ((s[3]'hks).toNat : Int)) = true := by simpa using hl
                  have m2 : decide (((s[3]'hks).toNat : Int) ≤ 122) = false := by simpa using hu
                  by_cases hd : ((s[3]'hks).toNat : Int) = 79
                  · have m3 : ((((s[3]'hks).toNat : Int)) != (((⟨#[73, 78, 66, 79, 88]⟩ : ByteArray)[3]'(by decide)).toNat : Int)) = false := by show ((((s[3]'hks).toNat : Int)) != 79) = false; simpa using hd
                    have Hr2 : Hid (∀ j, j < 4 → upB (byteAt s j) = byteAt inboxL j) := Lib.hid fun j hj => if e : j = 3 then by subst e; rw [HU.out]; exact hd else Hr.out j (by omega)
                    clear hd hb
                    go_wp2_with fail
                    go_round
                    case rel => exact ⟨4, by omega, by go_num, Hr2⟩
                    case measure => simp [intOf]
                  · have m3 : ((((s[3]'hks).toNat : Int)) != (((⟨#[73, 78, 66, 79, 88]⟩ : ByteArray)[3]'(by decide)).toNat : Int)) = true := by show ((((s[3]'hks).toNat : Int)) != 79) = true; simpa using hd
                    have HN : Hid (¬ InboxP s) := Lib.hid fun h => hd (by have := h.2.2 3 (by omega); rw [HU.out] at this; exact this)
                    clear hd hb
                    go_wp2_with fail
                    go_ret2
                    exact CleanP.same HFP.out HN.out
              · have HU : Hid (upB (byteAt s 3) = ((s[3]'hks).toNat : Int)) := Lib.hid (by rw [hb]; unfold upB; rw [if_neg (by omega)])
                have m1 : decide (97 ≤ ((s[3]'hks).toNat : Int)) = false := by simpa using hl
                by_cases hd : ((s[3]'hks).toNat : Int) = 79
                · have m3 : ((((s[3]'hks).toNat : Int)) != (((⟨#[73, 78, 66, 79, 88]⟩ : ByteArray)[3]'(by decide)).toNat : Int)) = false := by show ((((s[3]'hks).toNat : Int)) != 79) = false; simpa using hd
                  have Hr2 : Hid (∀ j, j < 4 → upB (byteAt s j) = byteAt inboxL j) := Lib.hid fun j hj => if e : j = 3 then by subst e; rw [HU.out]; exact hd else Hr.out j (by omega)
                  clear hd hb
                  go_wp2_with fail
                  go_round
                  case rel => exact ⟨4, by omega, by go_num, Hr2⟩
                  case measure => simp [intOf]
                · have m3 : ((((s[3]'hks).toNat : Int)) != (((⟨#[73, 78, 66, 79, 88]⟩ : ByteArray)[3]'(by decide)).toNat : Int)) = true := by show ((((s[3]'hks).toNat : Int)) != 79) = true; simpa using hd
                  have HN : Hid (¬ InboxP s) := Lib.hid fun h => hd (by have := h.2.2 3 (by omega); rw [HU.out] at this; exact this)
                  clear hd hb
                  go_wp2_with fail
                  go_ret2
                  exact CleanP.same HFP.out HN.out
            · have hks : 4 < s.size := by omega
              have hb := byteAt_of s 4 hks
              by_cases hl : 97 ≤ ((s[4]'hks).toNat : Int)
              · by_cases hu : ((s[4]'hks).toNat : Int) ≤ 122
                · have HU : Hid (upB (byteAt s 4) = ((s[4]'hks).toNat : Int) - 32) := Lib.hid (by rw [hb]; unfold upB; rw [if_pos ⟨hl, hu⟩])
                  have m1 : decide (97 ≤ ((s[4]'hks).toNat : Int)) = true := by simpa using hl
                  have m2 : decide (((s[4]'hks).toNat : Int) ≤ 122) = true := by simpa using hu
                  by_cases hd : ((s[4]'hks).toNat : Int) - 32 = 88
                  · have m3 : ((((s[4]'hks).toNat : Int) - 32) != (((⟨#[73, 78, 66, 79, 88]⟩ : ByteArray)[4]'(by decide)).toNat : Int)) = false := by show ((((s[4]'hks).toNat : Int) - 32) != 88) = false; simpa using hd
                    have Hr2 : Hid (∀ j, j < 5 → upB (byteAt s j) = byteAt inboxL j) := Lib.hid fun j hj => if e : j = 4 then by subst e; rw [HU.out]; exact hd else Hr.out j (by omega)
                    clear hd hb
                    go_wp2_with fail
                    go_round
                    case rel => exact ⟨5, by omega, by go_num, Hr2⟩
                    case measure => simp [intOf]
                  · have m3 : ((((s[4]'hks).toNat : Int) - 32) != (((⟨#[73, 78, 66, 79, 88]⟩ : ByteArray)[4]'(by decide)).toNat : Int)) = true := by show ((((s[4]'hks).toNat : Int) - 32) != 88) = true; simpa using hd
                    have HN : Hid (¬ InboxP s) := Lib.hid fun h => hd (by have := h.2.2 4 (by omega); rw [HU.out] at this; exact this)
                    clear hd hb
                    go_wp2_with fail
                    go_ret2
                    exact CleanP.same HFP.out HN.out
                · have HU : Hid (upB (byteAt s 4) = ((s[4]'hks).toNat : Int)) := Lib.hid (by rw [hb]; unfold upB; rw [if_neg (by omega)])
                  have m1 : decide (97 ≤ ((s[4]'hks).toNat : Int)) = true := by simpa using hl
                  have m2 : decide (((s[4]'hks).toNat : Int) ≤ 122) = false := by simpa using hu
                  by_cases hd : ((s[4]'hks).toNat : Int) = 88
                  · have m3 : ((((s[4]'hks).toNat : Int)) != (((⟨#[73, 78, 66, 79, 88]⟩ : ByteArray)[4]'(by decide)).toNat : Int)) = false := by show ((((s[4]'hks).toNat : Int)) != 88) = false; simpa using hd
                    have Hr2 : Hid (∀ j, j < 5 → upB (byteAt s j) = byteAt inboxL j) := Lib.hid fun j hj => if e : j = 4 then by subst e; rw [HU.out]; exact hd else Hr.out j (by omega)
                    clear hd hb
                    go_wp2_with fail
                    go_round
                    case rel => exact ⟨5, by omega, by go_num, Hr2⟩
                    case measure => simp [intOf]
                  · have m3 : ((((s[4]'hks).toNat : Int)) != (((⟨#[73, 78, 66, 79, 88]⟩ : ByteArray)[4]'(by decide)).toNat : Int)) = true := by show ((((s[4]'hks).toNat : Int)) != 88) = true; simpa using hd
                    have HN : Hid (¬ InboxP s) := Lib.hid fun h => hd (by have := h.2.2 4 (by omega); rw [HU.out] at this; exact this)
                    clear hd hb
                    go_wp2_with fail
                    go_ret2
                    exact CleanP.same HFP.out HN.out
              · have HU : Hid (upB (byteAt s 4) = ((s[4]'hks).toNat : Int)) := Lib.hid (by rw [hb]; unfold upB; rw [if_neg (by omega)])
                have m1 : decide (97 ≤ ((s[4]'hks).toNat : Int)) = false := by simpa using hl
                by_cases hd : ((s[4]'hks).toNat : Int) = 88
                · have m3 : ((((s[4]'hks).toNat : Int)) != (((⟨#[73, 78, 66, 79, 88]⟩ : ByteArray)[4]'(by decide)).toNat : Int)) = false := by show ((((s[4]'hks).toNat : Int)) != 88) = false; simpa using hd
                  have Hr2 : Hid (∀ j, j < 5 → upB (byteAt s j) = byteAt inboxL j) := Lib.hid fun j hj => if e : j = 4 then by subst e; rw [HU.out]; exact hd else Hr.out j (by omega)
                  clear hd hb
                  go_wp2_with fail
                  go_round
                  case rel => exact ⟨5, by omega, by go_num, Hr2⟩
                  case measure => simp [intOf]
                · have m3 : ((((s[4]'hks).toNat : Int)) != (((⟨#[73, 78, 66, 79, 88]⟩ : ByteArray)[4]'(by decide)).toNat : Int)) = true := by show ((((s[4]'hks).toNat : Int)) != 88) = true; simpa using hd
                  have HN : Hid (¬ InboxP s) := Lib.hid fun h => hd (by have := h.2.2 4 (by omega); rw [HU.out] at this; exact this)
                  clear hd hb
                  go_wp2_with fail
                  go_ret2
                  exact CleanP.same HFP.out HN.out
            · go_wp2_with fail
              go_ret2
              exact CleanP.inbox HFP.out ⟨h5', Hend.out, Hr.out⟩
        · have k2 : decide ((5 : Int) < (s.size : Int)) = true := by simpa using h6
          have k3 : (((s[5]'(by omega)).toNat : Int) != 47) = true := by rw [← byteAt_of s 5 (by omega)]; simpa using h7
          have HN : Hid (¬ InboxP s) := Lib.hid fun h => by
            rcases h.2.1 with e | e
            · omega
            · exact h7 e
          clear h7
          go_wp2_with fail
          go_ret2
          exact CleanP.same HFP.out HN.out
      · have k2 : decide ((5 : Int) < (s.size : Int)) = false := by simpa using h6
        have Hend : Hid (s.size = 5 ∨ byteAt s 5 = 47) := Lib.hid (.inl (by omega))
        go_wp2_with fail
        clear k1 k2
        go_loop [4] (fun i => ∃ k : Nat, k ≤ 5 ∧ i = .int .i64 k ∧ Hid (∀ j, j < k → upB (byteAt s j) = byteAt inboxL j)) (fun i => 5 - (intOf i).toNat)
        case atStart => exact ⟨0, by omega, rfl, Lib.hid fun j hj => by omega⟩
        case round =>
          obtain ⟨k, hk, rfl, Hr⟩ := hrel
          have hkc : k = 0 ∨ k = 1 ∨ k = 2 ∨ k = 3 ∨ k = 4 ∨ k = 5 := by omega
          rcases hkc with rfl | rfl | rfl | rfl | rfl | rfl
          · have hks : 0 < s.size := by omega
            have hb := byteAt_of s 0 hks
            by_cases hl : 97 ≤ ((s[0]'hks).toNat : Int)
            · by_cases hu : ((s[0]'hks).toNat : Int) ≤ 122
              · have HU : Hid (upB (byteAt s 0) = ((s[0]'hks).toNat : Int) - 32) := Lib.hid (by rw [hb]; unfold upB; rw [if_pos ⟨hl, hu⟩])
                have m1 : decide (97 ≤ ((s[0]'hks).toNat : Int)) = true := by simpa using hl
                have m2 : decide (((s[0]'hks).toNat : Int) ≤ 122) = true := by simpa using hu
                by_cases hd : ((s[0]'hks).toNat : Int) - 32 = 73
                · have m3 : ((((s[0]'hks).toNat : Int) - 32) != (((⟨#[73, 78, 66, 79, 88]⟩ : ByteArray)[0]'(by decide)).toNat : Int)) = false := by show ((((s[0]'hks).toNat : Int) - 32) != 73) = false; simpa using hd
                  have Hr2 : Hid (∀ j, j < 1 → upB (byteAt s j) = byteAt inboxL j) := Lib.hid fun j hj => if e : j = 0 then by subst e; rw [HU.out]; exact hd else Hr.out j (by omega)
                  clear hd hb
                  go_wp2_with fail
                  go_round
                  case rel => exact ⟨1, by omega, by go_num, Hr2⟩
                  case measure => simp [intOf]
                · have m3 : ((((s[0]'hks).toNat : Int) - 32) != (((⟨#[73, 78, 66, 79, 88]⟩ : ByteArray)[0]'(by decide)).toNat : Int)) = true := by show ((((s[0]'hks).toNat : Int) - 32) != 73) = true; simpa using hd
                  have HN : Hid (¬ InboxP s) := Lib.hid fun h => hd (by have := h.2.2 0 (by omega); rw [HU.out] at this; exact this)
                  clear hd hb
                  go_wp2_with fail
                  go_ret2
                  exact CleanP.same HFP.out HN.out
              · have HU : Hid (upB (byteAt s 0) = ((s[0]'hks).toNat : Int)) := Lib.hid (by rw [hb]; unfold upB; rw [if_neg (by omega)])
                have m1 : decide (97 ≤ ((s[0]'hks).toNat : Int)) = true := by simpa using hl
                have m2 : decide (((s[0]'hks).toNat : Int) ≤ 122) = false := by simpa using hu
                by_cases hd : ((s[0]'hks).toNat : Int) = 73
                · have m3 : ((((s[0]'hks).toNat : Int)) != (((⟨#[73, 78, 66, 79, 88]⟩ : ByteArray)[0]'(by decide)).toNat : Int)) = false := by show ((((s[0]'hks).toNat : Int)) != 73) = false; simpa using hd
                  have Hr2 : Hid (∀ j, j < 1 → upB (byteAt s j) = byteAt inboxL j) := Lib.hid fun j hj => if e : j = 0 then by subst e; rw [HU.out]; exact hd else Hr.out j (by omega)
                  clear hd hb
                  go_wp2_with fail
                  go_round
                  case rel => exact ⟨1, by omega, by go_num, Hr2⟩
                  case measure => simp [intOf]
                · have m3 : ((((s[0]'hks).toNat : Int)) != (((⟨#[73, 78, 66, 79, 88]⟩ : ByteArray)[0]'(by decide)).toNat : Int)) = true := by show ((((s[0]'hks).toNat : Int)) != 73) = true; simpa using hd
                  have HN : Hid (¬ InboxP s) := Lib.hid fun h => hd (by have := h.2.2 0 (by omega); rw [HU.out] at this; exact this)
                  clear hd hb
                  go_wp2_with fail
                  go_ret2
                  exact CleanP.same HFP.out HN.out
            · have HU : Hid (upB (byteAt s 0) = ((s[0]'hks).toNat : Int)) := Lib.hid (by rw [hb]; unfold upB; rw [if_neg (by omega)])
              have m1 : decide (97 ≤ ((s[0]'hks).toNat : Int)) = false := by simpa using hl
              by_cases hd : ((s[0]'hks).toNat : Int) = 73
              · have m3 : ((((s[0]'hks).toNat : Int)) != (((⟨#[73, 78, 66, 79, 88]⟩ : ByteArray)[0]'(by decide)).toNat : Int)) = false := by show ((((s[0]'hks).toNat : Int)) != 73) = false; simpa using hd
                have Hr2 : Hid (∀ j, j < 1 → upB (byteAt s j) = byteAt inboxL j) := Lib.hid fun j hj => if e : j = 0 then by subst e; rw [HU.out]; exact hd else Hr.out j (by omega)
                clear hd hb
                go_wp2_with fail
                go_round
                case rel => exact ⟨1, by omega, by go_num, Hr2⟩
                case measure => simp [intOf]
              · have m3 : ((((s[0]'hks).toNat : Int)) != (((⟨#[73, 78, 66, 79, 88]⟩ : ByteArray)[0]'(by decide)).toNat : Int)) = true := by show ((((s[0]'hks).toNat : Int)) != 73) = true; simpa using hd
                have HN : Hid (¬ InboxP s) := Lib.hid fun h => hd (by have := h.2.2 0 (by omega); rw [HU.out] at this; exact this)
                clear hd hb
                go_wp2_with fail
                go_ret2
                exact CleanP.same HFP.out HN.out
          · have hks : 1 < s.size := by omega
            have hb := byteAt_of s 1 hks
            by_cases hl : 97 ≤ ((s[1]'hks).toNat : Int)
            · by_cases hu : ((s[1]'hks).toNat : Int) ≤ 122
              · have HU : Hid (upB (byteAt s 1) = ((s[1]'hks).toNat : Int) - 32) := Lib.hid (by rw [hb]; unfold upB; rw [if_pos ⟨hl, hu⟩])
                have m1 : decide (97 ≤ ((s[1]'hks).toNat : Int)) = true := by simpa using hl
                have m2 : decide (((s[1]'hks).toNat : Int) ≤ 122) = true := by simpa using hu
                by_cases hd : ((s[1]'hks).toNat : Int) - 32 = 78
                · have m3 : ((((s[1]'hks).toNat : Int) - 32) != (((⟨#[73, 78, 66, 79, 88]⟩ : ByteArray)[1]'(by decide)).toNat : Int)) = false := by show ((((s[1]'hks).toNat : Int) - 32) != 78) = false; simpa using hd
                  have Hr2 : Hid (∀ j, j < 2 → upB (byteAt s j) = byteAt inboxL j) := Lib.hid fun j hj => if e : j = 1 then by subst e; rw [HU.out]; exact hd else Hr.out j (by omega)
                  clear hd hb
                  go_wp2_with fail
                  go_round
                  case rel => exact ⟨2, by omega, by go_num, Hr2⟩
                  case measure => simp [intOf]
                · have m3 : ((((s[1]'hks).toNat : Int) - 32) != (((⟨#[73, 78, 66, 79, 88]⟩ : ByteArray)[1]'(by decide)).toNat : Int)) = true := by show ((((s[1]'hks).toNat : Int) - 32) != 78) = true; simpa using hd
                  have HN : Hid (¬ InboxP s) := Lib.hid fun h => hd (by have := h.2.2 1 (by omega); rw [HU.out] at this; exact this)
                  clear hd hb
                  go_wp2_with fail
                  go_ret2
                  exact CleanP.same HFP.out HN.out
              · have HU : Hid (upB (byteAt s 1) = ((s[1]'hks).toNat : Int)) := Lib.hid (by rw [hb]; unfold upB; rw [if_neg (by omega)])
                have m1 : decide (97 ≤ ((s[1]'hks).toNat : Int)) = true := by simpa using hl
                have m2 : decide (((s[1]'hks).toNat : Int) ≤ 122) = false := by simpa using hu
                by_cases hd : ((s[1]'hks).toNat : Int) = 78
                · have m3 : ((((s[1]'hks).toNat : Int)) != (((⟨#[73, 78, 66, 79, 88]⟩ : ByteArray)[1]'(by decide)).toNat : Int)) = false := by show ((((s[1]'hks).toNat : Int)) != 78) = false; simpa using hd
                  have Hr2 : Hid (∀ j, j < 2 → upB (byteAt s j) = byteAt inboxL j) := Lib.hid fun j hj => if e : j = 1 then by subst e; rw [HU.out]; exact hd else Hr.out j (by omega)
                  clear hd hb
                  go_wp2_with fail
                  go_round
                  case rel => exact ⟨2, by omega, by go_num, Hr2⟩
                  case measure => simp [intOf]
                · have m3 : ((((s[1]'hks).toNat : Int)) != (((⟨#[73, 78, 66, 79, 88]⟩ : ByteArray)[1]'(by decide)).toNat : Int)) = true := by show ((((s[1]'hks).toNat : Int)) != 78) = true; simpa using hd
                  have HN : Hid (¬ InboxP s) := Lib.hid fun h => hd (by have := h.2.2 1 (by omega); rw [HU.out] at this; exact this)
                  clear hd hb
                  go_wp2_with fail
                  go_ret2
                  exact CleanP.same HFP.out HN.out
            · have HU : Hid (upB (byteAt s 1) = ((s[1]'hks).toNat : Int)) := Lib.hid (by rw [hb]; unfold upB; rw [if_neg (by omega)])
              have m1 : decide (97 ≤ ((s[1]'hks).toNat : Int)) = false := by simpa using hl
              by_cases hd : ((s[1]'hks).toNat : Int) = 78
              · have m3 : ((((s[1]'hks).toNat : Int)) != (((⟨#[73, 78, 66, 79, 88]⟩ : ByteArray)[1]'(by decide)).toNat : Int)) = false := by show ((((s[1]'hks).toNat : Int)) != 78) = false; simpa using hd
                have Hr2 : Hid (∀ j, j < 2 → upB (byteAt s j) = byteAt inboxL j) := Lib.hid fun j hj => if e : j = 1 then by subst e; rw [HU.out]; exact hd else Hr.out j (by omega)
                clear hd hb
                go_wp2_with fail
                go_round
                case rel => exact ⟨2, by omega, by go_num, Hr2⟩
                case measure => simp [intOf]
              · have m3 : ((((s[1]'hks).toNat : Int)) != (((⟨#[73, 78, 66, 79, 88]⟩ : ByteArray)[1]'(by decide)).toNat : Int)) = true := by show ((((s[1]'hks).toNat : Int)) != 78) = true; simpa using hd
                have HN : Hid (¬ InboxP s) := Lib.hid fun h => hd (by have := h.2.2 1 (by omega); rw [HU.out] at this; exact this)
                clear hd hb
                go_wp2_with fail
                go_ret2
                exact CleanP.same HFP.out HN.out
          · have hks : 2 < s.size := by omega
            have hb := byteAt_of s 2 hks
            by_cases hl : 97 ≤ ((s[2]'hks).toNat : Int)
            · by_cases hu : ((s[2]'hks).toNat : Int) ≤ 122
              · have HU : Hid (upB (byteAt s 2) = ((s[2]'hks).toNat : Int) - 32) := Lib.hid (by rw [hb]; unfold upB; rw [if_pos ⟨hl, hu⟩])
                have m1 : decide (97 ≤ ((s[2]'hks).toNat : Int)) = true := by simpa using hl
                have m2 : decide (((s[2]'hks).toNat : Int) ≤ 122) = true := by simpa using hu
                by_cases hd : ((s[2]'hks).toNat : Int) - 32 = 66
                · have m3 : ((((s[2]'hks).toNat : Int) - 32) != (((⟨#[73, 78, 66, 79, 88]⟩ : ByteArray)[2]'(by decide)).toNat : Int)) = false := by show ((((s[2]'hks).toNat : Int) - 32) != 66) = false; simpa using hd
                  have Hr2 : Hid (∀ j, j < 3 → upB (byteAt s j) = byteAt inboxL j) := Lib.hid fun j hj => if e : j = 2 then by subst e; rw [HU.out]; exact hd else Hr.out j (by omega)
                  clear hd hb
                  go_wp2_with fail
                  go_round
                  case rel => exact ⟨3, by omega, by go_num, Hr2⟩
                  case measure => simp [intOf]
                · have m3 : ((((s[2]'hks).toNat : Int) - 32) != (((⟨#[73, 78, 66, 79, 88]⟩ : ByteArray)[2]'(by decide)).toNat : Int)) = true := by show ((((s[2]'hks).toNat : Int) - 32) != 66) = true; simpa using hd
                  have HN : Hid (¬ InboxP s) := Lib.hid fun h => hd (by have := h.2.2 2 (by omega); rw [HU.out] at this; exact this)
                  clear hd hb
                  go_wp2_with fail
                  go_ret2
                  exact CleanP.same HFP.out HN.out
              · have HU : Hid (upB (byteAt s 2) = ((s[2]'hks).toNat : Int)) := Lib.hid (by rw [hb]; unfold upB; rw [if_neg (by omega)])
                have m1 : decide (97 ≤ ((s[2]'hks).toNat : Int)) = true := by simpa using hl
                have m2 : decide (((s[2]'hks).toNat : Int) ≤ 122) = false := by simpa using hu
                by_cases hd : ((s[2]'hks).toNat : Int) = 66
                · have m3 : ((((s[2]'hks).toNat : Int)) != (((⟨#[73, 78, 66, 79, 88]⟩ : ByteArray)[2]'(by decide)).toNat : Int)) = false := by show ((((s[2]'hks).toNat : Int)) != 66) = false; simpa using hd
                  have Hr2 : Hid (∀ j, j < 3 → upB (byteAt s j) = byteAt inboxL j) := Lib.hid fun j hj => if e : j = 2 then by subst e; rw [HU.out]; exact hd else Hr.out j (by omega)
                  clear hd hb
                  go_wp2_with fail
                  go_round
                  case rel => exact ⟨3, by omega, by go_num, Hr2⟩
                  case measure => simp [intOf]
                · have m3 : ((((s[2]'hks).toNat : Int)) != (((⟨#[73, 78, 66, 79, 88]⟩ : ByteArray)[2]'(by decide)).toNat : Int)) = true := by show ((((s[2]'hks).toNat : Int)) != 66) = true; simpa using hd
                  have HN : Hid (¬ InboxP s) := Lib.hid fun h => hd (by have := h.2.2 2 (by omega); rw [HU.out] at this; exact this)
                  clear hd hb
                  go_wp2_with fail
                  go_ret2
                  exact CleanP.same HFP.out HN.out
            · have HU : Hid (upB (byteAt s 2) = ((s[2]'hks).toNat : Int)) := Lib.hid (by rw [hb]; unfold upB; rw [if_neg (by omega)])
              have m1 : decide (97 ≤ ((s[2]'hks).toNat : Int)) = false := by simpa using hl
              by_cases hd : ((s[2]'hks).toNat : Int) = 66
              · have m3 : ((((s[2]'hks).toNat : Int)) != (((⟨#[73, 78, 66, 79, 88]⟩ : ByteArray)[2]'(by decide)).toNat : Int)) = false := by show ((((s[2]'hks).toNat : Int)) != 66) = false; simpa using hd
                have Hr2 : Hid (∀ j, j < 3 → upB (byteAt s j) = byteAt inboxL j) := Lib.hid fun j hj => if e : j = 2 then by subst e; rw [HU.out]; exact hd else Hr.out j (by omega)
                clear hd hb
                go_wp2_with fail
                go_round
                case rel => exact ⟨3, by omega, by go_num, Hr2⟩
                case measure => simp [intOf]
              · have m3 : ((((s[2]'hks).toNat : Int)) != (((⟨#[73, 78, 66, 79, 88]⟩ : ByteArray)[2]'(by decide)).toNat : Int)) = true := by show ((((s[2]'hks).toNat : Int)) != 66) = true; simpa using hd
                have HN : Hid (¬ InboxP s) := Lib.hid fun h => hd (by have := h.2.2 2 (by omega); rw [HU.out] at this; exact this)
                clear hd hb
                go_wp2_with fail
                go_ret2
                exact CleanP.same HFP.out HN.out
          · have hks : 3 < s.size := by omega
            have hb := byteAt_of s 3 hks
            by_cases hl : 97 ≤ ((s[3]'hks).toNat : Int)
            · by_cases hu : ((s[3]'hks).toNat : Int) ≤ 122
              · have HU : Hid (upB (byteAt s 3) = ((s[3]'hks).toNat : Int) - 32) := Lib.hid (by rw [hb]; unfold upB; rw [if_pos ⟨hl, hu⟩])
                have m1 : decide (97 ≤ ((s[3]'hks).toNat : Int)) = true := by simpa using hl
                have m2 : decide (((s[3]'hks).toNat : Int) ≤ 122) = true := by simpa using hu
                by_cases hd : ((s[3]'hks).toNat : Int) - 32 = 79
                · have m3 : ((((s[3]'hks).toNat : Int) - 32) != (((⟨#[73, 78, 66, 79, 88]⟩ : ByteArray)[3]'(by decide)).toNat : Int)) = false := by show ((((s[3]'hks).toNat : Int) - 32) != 79) = false; simpa using hd
                  have Hr2 : Hid (∀ j, j < 4 → upB (byteAt s j) = byteAt inboxL j) := Lib.hid fun j hj => if e : j = 3 then by subst e; rw [HU.out]; exact hd else Hr.out j (by omega)
                  clear hd hb
                  go_wp2_with fail
                  go_round
                  case rel => exact ⟨4, by omega, by go_num, Hr2⟩
                  case measure => simp [intOf]
                · have m3 : ((((s[3]'hks).toNat : Int) - 32) != (((⟨#[73, 78, 66, 79, 88]⟩ : ByteArray)[3]'(by decide)).toNat : Int)) = true := by show ((((s[3]'hks).toNat : Int) - 32) != 79) = true; simpa using hd
                  have HN : Hid (¬ InboxP s) := Lib.hid fun h => hd (by have := h.2.2 3 (by omega); rw [HU.out] at this; exact this)
                  clear hd hb
                  go_wp2_with fail
                  go_ret2
                  exact CleanP.same HFP.out HN.out
              · have HU : Hid (upB (byteAt s 3) = ((s[3]'hks).toNat : Int)) := Lib.hid (by rw [hb]; unfold upB; rw [if_neg (by omega)])
                have m1 : decide (97 ≤ ((s[3]'hks).toNat : Int)) = true := by simpa using hl
                have m2 : decide (((s[3]'hks).toNat : Int) ≤ 122) = false := by simpa using hu
                by_cases hd : ((s[3]'hks).toNat : Int) = 79
                · have m3 : ((((s[3]'hks).toNat : Int)) != (((⟨#[73, 78, 66, 79, 88]⟩ : ByteArray)[3]'(by decide)).toNat : Int)) = false := by show ((((s[3]'hks).toNat : Int)) != 79) = false; simpa using hd
                  have Hr2 : Hid (∀ j, j < 4 → upB (byteAt s j) = byteAt inboxL j) := Lib.hid fun j hj => if e : j = 3 then by subst e; rw [HU.out]; exact hd else Hr.out j (by omega)
                  clear hd hb
                  go_wp2_with fail
                  go_round
                  case rel => exact ⟨4, by omega, by go_num, Hr2⟩
                  case measure => simp [intOf]
                · have m3 : ((((s[3]'hks).toNat : Int)) != (((⟨#[73, 78, 66, 79, 88]⟩ : ByteArray)[3]'(by decide)).toNat : Int)) = true := by show ((((s[3]'hks).toNat : Int)) != 79) = true; simpa using hd
                  have HN : Hid (¬ InboxP s) := Lib.hid fun h => hd (by have := h.2.2 3 (by omega); rw [HU.out] at this; exact this)
                  clear hd hb
                  go_wp2_with fail
                  go_ret2
                  exact CleanP.same HFP.out HN.out
            · have HU : Hid (upB (byteAt s 3) = ((s[3]'hks).toNat : Int)) := Lib.hid (by rw [hb]; unfold upB; rw [if_neg (by omega)])
              have m1 : decide (97 ≤ ((s[3]'hks).toNat : Int)) = false := by simpa using hl
              by_cases hd : ((s[3]'hks).toNat : Int) = 79
              · have m3 : ((((s[3]'hks).toNat : Int)) != (((⟨#[73, 78, 66, 79, 88]⟩ : ByteArray)[3]'(by decide)).toNat : Int)) = false := by show ((((s[3]'hks).toNat : Int)) != 79) = false; simpa using hd
                have Hr2 : Hid (∀ j, j < 4 → upB (byteAt s j) = byteAt inboxL j) := Lib.hid fun j hj => if e : j = 3 then by subst e; rw [HU.out]; exact hd else Hr.out j (by omega)
                clear hd hb
                go_wp2_with fail
                go_round
                case rel => exact ⟨4, by omega, by go_num, Hr2⟩
                case measure => simp [intOf]
              · have m3 : ((((s[3]'hks).toNat : Int)) != (((⟨#[73, 78, 66, 79, 88]⟩ : ByteArray)[3]'(by decide)).toNat : Int)) = true := by show ((((s[3]'hks).toNat : Int)) != 79) = true; simpa using hd
                have HN : Hid (¬ InboxP s) := Lib.hid fun h => hd (by have := h.2.2 3 (by omega); rw [HU.out] at this; exact this)
                clear hd hb
                go_wp2_with fail
                go_ret2
                exact CleanP.same HFP.out HN.out
          · have hks : 4 < s.size := by omega
            have hb := byteAt_of s 4 hks
            by_cases hl : 97 ≤ ((s[4]'hks).toNat : Int)
            · by_cases hu : ((s[4]'hks).toNat : Int) ≤ 122
              · have HU : Hid (upB (byteAt s 4) = ((s[4]'hks).toNat : Int) - 32) := Lib.hid (by rw [hb]; unfold upB; rw [if_pos ⟨hl, hu⟩])
                have m1 : decide (97 ≤ ((s[4]'hks).toNat : Int)) = true := by simpa using hl
                have m2 : decide (((s[4]'hks).toNat : Int) ≤ 122) = true := by simpa using hu
                by_cases hd : ((s[4]'hks).toNat : Int) - 32 = 88
                · have m3 : ((((s[4]'hks).toNat : Int) - 32) != (((⟨#[73, 78, 66, 79, 88]⟩ : ByteArray)[4]'(by decide)).toNat : Int)) = false := by show ((((s[4]'hks).toNat : Int) - 32) != 88) = false; simpa using hd
                  have Hr2 : Hid (∀ j, j < 5 → upB (byteAt s j) = byteAt inboxL j) := Lib.hid fun j hj => if e : j = 4 then by subst e; rw [HU.out]; exact hd else Hr.out j (by omega)
                  clear hd hb
                  go_wp2_with fail
                  go_round
                  case rel => exact ⟨5, by omega, by go_num, Hr2⟩
                  case measure => simp [intOf]
                · have m3 : ((((s[4]'hks).toNat : Int) - 32) != (((⟨#[73, 78, 66, 79, 88]⟩ : ByteArray)[4]'(by decide)).toNat : Int)) = true := by show ((((s[4]'hks).toNat : Int) - 32) != 88) = true; simpa using hd
                  have HN : Hid (¬ InboxP s) := Lib.hid fun h => hd (by have := h.2.2 4 (by omega); rw [HU.out] at this; exact this)
                  clear hd hb
                  go_wp2_with fail
                  go_ret2
                  exact CleanP.same HFP.out HN.out
              · have HU : Hid (upB (byteAt s 4) = ((s[4]'hks).toNat : Int)) := Lib.hid (by rw [hb]; unfold upB; rw [if_neg (by omega)])
                have m1 : decide (97 ≤ ((s[4]'hks).toNat : Int)) = true := by simpa using hl
                have m2 : decide (((s[4]'hks).toNat : Int) ≤ 122) = false := by simpa using hu
                by_cases hd : ((s[4]'hks).toNat : Int) = 88
                · have m3 : ((((s[4]'hks).toNat : Int)) != (((⟨#[73, 78, 66, 79, 88]⟩ : ByteArray)[4]'(by decide)).toNat : Int)) = false := by show ((((s[4]'hks).toNat : Int)) != 88) = false; simpa using hd
                  have Hr2 : Hid (∀ j, j < 5 → upB (byteAt s j) = byteAt inboxL j) := Lib.hid fun j hj => if e : j = 4 then by subst e; rw [HU.out]; exact hd else Hr.out j (by omega)
                  clear hd hb
                  go_wp2_with fail
                  go_round
                  case rel => exact ⟨5, by omega, by go_num, Hr2⟩
                  case measure => simp [intOf]
                · have m3 : ((((s[4]'hks).toNat : Int)) != (((⟨#[73, 78, 66, 79, 88]⟩ : ByteArray)[4]'(by decide)).toNat : Int)) = true := by show ((((s[4]'hks).toNat : Int)) != 88) = true; simpa using hd
                  have HN : Hid (¬ InboxP s) := Lib.hid fun h => hd (by have := h.2.2 4 (by omega); rw [HU.out] at this; exact this)
                  clear hd hb
                  go_wp2_with fail
                  go_ret2
                  exact CleanP.same HFP.out HN.out
            · have HU : Hid (upB (byteAt s 4) = ((s[4]'hks).toNat : Int)) := Lib.hid (by rw [hb]; unfold upB; rw [if_neg (by omega)])
              have m1 : decide (97 ≤ ((s[4]'hks).toNat : Int)) = false := by simpa using hl
              by_cases hd : ((s[4]'hks).toNat : Int) = 88
              · have m3 : ((((s[4]'hks).toNat : Int)) != (((⟨#[73, 78, 66, 79, 88]⟩ : ByteArray)[4]'(by decide)).toNat : Int)) = false := by show ((((s[4]'hks).toNat : Int)) != 88) = false; simpa using hd
                have Hr2 : Hid (∀ j, j < 5 → upB (byteAt s j) = byteAt inboxL j) := Lib.hid fun j hj => if e : j = 4 then by subst e; rw [HU.out]; exact hd else Hr.out j (by omega)
                clear hd hb
                go_wp2_with fail
                go_round
                case rel => exact ⟨5, by omega, by go_num, Hr2⟩
                case measure => simp [intOf]
              · have m3 : ((((s[4]'hks).toNat : Int)) != (((⟨#[73, 78, 66, 79, 88]⟩ : ByteArray)[4]'(by decide)).toNat : Int)) = true := by show ((((s[4]'hks).toNat : Int)) != 88) = true; simpa using hd
                have HN : Hid (¬ InboxP s) := Lib.hid fun h => hd (by have := h.2.2 4 (by omega); rw [HU.out] at this; exact this)
                clear hd hb
                go_wp2_with fail
                go_ret2
                exact CleanP.same HFP.out HN.out
          · go_wp2_with fail
            go_ret2
            exact CleanP.inbox HFP.out ⟨h5', Hend.out, Hr.out⟩

end Go.Proofs.YtjamgkcmpcnfpaaGreatDoor

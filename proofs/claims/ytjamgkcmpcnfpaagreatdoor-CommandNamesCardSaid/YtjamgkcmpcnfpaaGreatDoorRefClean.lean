/-
  The document's 'Clean' of names.
-/
import Derived.Test.YtjamgkcmpcnfpaaGreatDoorFormed
namespace Go.Proofs.YtjamgkcmpcnfpaaGreatDoor
open Go.RowKit

/-- A byte, large. -/
def upB (c : Int) : Int := if 97 ≤ c ∧ c ≤ 122 then c - 32 else c

def inboxL : ByteArray := ⟨#[73, 78, 66, 79, 88]⟩

/-- Does a name begin with INBOX, in letters of whatever form? -/
def InboxP (s : ByteArray) : Prop := 5 ≤ s.size ∧ (s.size = 5 ∨ byteAt s 5 = 47) ∧ ∀ j, j < 5 → upB (byteAt s j) = byteAt inboxL j

/-- What 'Clean' gives. -/
def CleanG (s t : ByteArray) : Prop := (InboxP s ∧ t = inboxL ++ s.extract 5 s.size) ∨ (¬ InboxP s ∧ t = s)

def CleanP (s : ByteArray) (w : World) (e : Ending) (w' : World) : Prop := ∃ t n, e = .returned (.tuple #[.string t, .int .i64 n]) ∧ w = w' ∧ (n = 0 → FormedP s ∧ CleanG s t)

theorem CleanP.no (s : ByteArray) (w : World) : CleanP s w (.returned (.tuple #[.string ⟨#[]⟩, .int .i64 3])) w := ⟨_, 3, rfl, rfl, fun h => by cases h⟩
theorem CleanP.same {s : ByteArray} {w : World} (h : FormedP s) (hn : ¬ InboxP s) : CleanP s w (.returned (.tuple #[.string s, .int .i64 0])) w := ⟨_, 0, rfl, rfl, fun _ => ⟨h, .inr ⟨hn, rfl⟩⟩⟩
theorem CleanP.inbox {s : ByteArray} {w : World} (h : FormedP s) (hn : InboxP s) : CleanP s w (.returned (.tuple #[.string (inboxL ++ s.extract 5 s.size), .int .i64 0])) w := ⟨_, 0, rfl, rfl, fun _ => ⟨h, .inl ⟨hn, rfl⟩⟩⟩

set_option maxHeartbeats 8000000 in
set_option maxRecDepth 100000 in
theorem Clean10_any (s : ByteArray) (w : World) (hs : s.size ≤ 9223372036854775806) : Calls Tryz.prog 12 #[.string s] w (CleanP s w) := by
  have hF := formed_any s w hs
  have HF := Lib.hid hF; clear hF
  go_enter Tryz.func12, Tryz.ntmps12
  go_wp2_with fail
  refine HF.out.mono ?_
  rintro e w1 ⟨r, rfl, rfl, hr⟩
  cases r with
  | false =>
    go_wp2_with fail
    go_ret2
    exact CleanP.no s w
  | true =>
    have hFP := hr rfl
    have HFP := Lib.hid hFP
    have hsz40 := hFP.2.1
    clear hr hFP
    by_cases h5 : (s.size : Int) < 5
    · have HN : Hid (¬ InboxP s) := Lib.hid fun h => by have := h.1; omega
      have k1 : decide ((s.size : Int) < 5) = true := by simpa using h5
      clear h5
      go_wp2_with fail
      go_ret2
      exact CleanP.same HFP.out HN.out
    · have k1 : decide ((s.size : Int) < 5) = false := by simpa using h5
      have h5' : 5 ≤ s.size := by omega
      clear h5
      by_cases h6 : (5 : Int) < (s.size : Int)
      · by_cases h7 : byteAt s 5 = 47
        · have k2 : decide ((5 : Int) < (s.size : Int)) = true := by simpa using h6
          have k3 : (((s[5]'(by omega)).toNat : Int) != 47) = false := by rw [← byteAt_of s 5 (by omega)]; simpa using h7
          have Hend : Hid (s.size = 5 ∨ byteAt s 5 = 47) := Lib.hid (.inr h7)
          clear h7
          go_wp2_with fail
          clear k1 k2 k3
          go_loop [4] (fun i => ∃ k : Nat, k ≤ 5 ∧ i = .int .i64 k ∧ Hid (∀ j, j < k → upB (byteAt s j) = byteAt inboxL j)) (fun i => 5 - (intOf i).toNat)
          case atStart => exact ⟨0, by omega, rfl, Lib.hid fun j hj => by omega⟩
          case round =>
            obtain ⟨k, hk, rfl, Hr⟩ := hrel
            have hkc : k = 0 ∨ k = 1 ∨ k = 2 ∨ k = 3 ∨ k = 4 ∨ k = 5 := by omega
            rcases hkc with rfl | rfl | rfl | rfl | rfl | rfl
            · have hks : 0 < s.size := by omega
              have hb := byteAt_of s 0 hks
              by_cases hl : 97 ≤ ((s[0]'hks).toNat : Int)
              · by_cases hu : ((s[0]'hks).toNat : Int) ≤ 122
                · have HU : Hid (upB (byteAt s 0) = ((s[0]'hks).toNat : Int) - 32) := Lib.hid (by rw [hb]; unfold upB; rw [if_pos ⟨hl, hu⟩])
                  have m1 : decide (97 ≤ ((s[0]'hks).toNat : Int)) = true := by simpa using hl
                  have m2 : decide (((s[0]'hks).toNat : Int) ≤ 122) = true := by simpa using hu
                  by_cases hd : ((s[0]'hks).toNat : Int) - 32 = 73
                  · have m3 : ((((s[0]'hks).toNat : Int) - 32) != (((⟨#[73, 78, 66, 79, 88]⟩ : ByteArray)[0]'(by decide)).toNat : Int)) = false := by show ((((s[0]'hks).toNat : Int) - 32) != 73) = false; simpa using hd
                    have Hr2 : Hid (∀ j, j < 1 → upB (byteAt s j) = byteAt inboxL j) := Lib.hid fun j hj => if e : j = 0 then by subst e; rw [HU.out]; exact hd else Hr.out j (by omega)
                    clear hd hb
                    go_wp2_with fail
                    go_round
                    case rel => exact ⟨1, by omega, by go_num, Hr2⟩
                    case measure => simp [intOf]
                  · have m3 : ((((s[0]'hks).toNat : Int) - 32) != (((⟨#[73, 78, 66, 79, 88]⟩ : ByteArray)[0]'(by decide)).toNat : Int)) = true := by show ((((s[0]'hks).toNat : Int) - 32) != 73) = true; simpa using hd
                    have HN : Hid (¬ InboxP s) := Lib.hid fun h => hd (by have := h.2.2 0 (by omega); rw [HU.out] at this; exact this)
                    clear hd hb
                    go_wp2_with fail
                    go_ret2
                    exact CleanP.same HFP.out HN.out
                · have HU : Hid (upB (byteAt s 0) = ((s[0]'hks).toNat : Int)) := Lib.hid (by rw [hb]; unfold upB; rw [if_neg (by omega)])
                  have m1 : decide (97 ≤ ((s[0]'hks).toNat : Int)) = true := by simpa using hl
                  have m2 : decide (((s[0]'hks).toNat : Int) ≤ 122) = false := by simpa using hu
                  by_cases hd : ((s[0]'hks).toNat : Int) = 73
                  · have m3 : ((((s[0]'hks).toNat : Int)) != (((⟨#[73, 78, 66, 79, 88]⟩ : ByteArray)[0]'(by decide)).toNat : Int)) = false := by show ((((s[0]'hks).toNat : Int)) != 73) = false; simpa using hd
                    have Hr2 : Hid (∀ j, j < 1 → upB (byteAt s j) = byteAt inboxL j) := Lib.hid fun j hj => if e : j = 0 then by subst e; rw [HU.out]; exact hd else Hr.out j (by omega)
                    clear hd hb
                    go_wp2_with fail
                    go_round
                    case rel => exact ⟨1, by omega, by go_num, Hr2⟩
                    case measure => simp [intOf]
                  · have m3 : ((((s[0]'hks).toNat : Int)) != (((⟨#[73, 78, 66, 79, 88]⟩ : ByteArray)[0]'(by decide)).toNat : Int)) = true := by show ((((s[0]'hks).toNat : Int)) != 73) = true; simpa using hd
                    have HN : Hid (¬ InboxP s) := Lib.hid fun h => hd (by have := h.2.2 0 (by omega); rw [HU.out] at this; exact this)
                    clear hd hb
                    go_wp2_with fail
                    go_ret2
                    exact CleanP.same HFP.out HN.out
              · have HU : Hid (upB (byteAt s 0) = ((s[0]'hks).toNat : Int)) := Lib.hid (by rw [hb]; unfold upB; rw [if_neg (by omega)])
                have m1 : decide (97 ≤ ((s[0]'hks).toNat : Int)) = false := by simpa using hl
                by_cases hd : ((s[0]'hks).toNat : Int) = 73
                · have m3 : ((((s[0]'hks).toNat : Int)) != (((⟨#[73, 78, 66, 79, 88]⟩ : ByteArray)[0]'(by decide)).toNat : Int)) = false := by show ((((s[0]'hks).toNat : Int)) != 73) = false; simpa using hd
                  have Hr2 : Hid (∀ j, j < 1 → upB (byteAt s j) = byteAt inboxL j) := Lib.hid fun j hj => if e : j = 0 then by subst e; rw [HU.out]; exact hd else Hr.out j (by omega)
                  clear hd hb
                  go_wp2_with fail
                  go_round
                  case rel => exact ⟨1, by omega, by go_num, Hr2⟩
                  case measure => simp [intOf]
                · have m3 : ((((s[0]'hks).toNat : Int)) != (((⟨#[73, 78, 66, 79, 88]⟩ : ByteArray)[0]'(by decide)).toNat : Int)) = true := by show ((((s[0]'hks).toNat : Int)) != 73) = true; simpa using hd
                  have HN : Hid (¬ InboxP s) := Lib.hid fun h => hd (by have := h.2.2 0 (by omega); rw [HU.out] at this; exact this)
                  clear hd hb
                  go_wp2_with fail
                  go_ret2
                  exact CleanP.same HFP.out HN.out
            · have hks : 1 < s.size := by omega
              have hb := byteAt_of s 1 hks
              by_cases hl : 97 ≤ ((s[1]'hks).toNat : Int)
              · by_cases hu : ((s[1]'hks).toNat : Int) ≤ 122
                · have HU : Hid (upB (byteAt s 1) = ((s[1]'hks).toNat : Int) - 32) := Lib.hid (by rw [hb]; unfold upB; rw [if_pos ⟨hl, hu⟩])
                  have m1 : decide (97 ≤ ((s[1]'hks).toNat : Int)) = true := by simpa using hl
                  have m2 : decide (((s[1]'hks).toNat : Int) ≤ 122) = true := by simpa using hu
                  by_cases hd : ((s[1]'hks).toNat : Int) - 32 = 78
                  · have m3 : ((((s[1]'hks).toNat : Int) - 32) != (((⟨#[73, 78, 66, 79, 88]⟩ : ByteArray)[1]'(by decide)).toNat : Int)) = false := by show ((((s[1]'hks).toNat : Int) - 32) != 78) = false; simpa using hd
                    have Hr2 : Hid (∀ j, j < 2 → upB (byteAt s j) = byteAt inboxL j) := Lib.hid fun j hj => if e : j = 1 then by subst e; rw [HU.out]; exact hd else Hr.out j (by omega)
                    clear hd hb
                    go_wp2_with fail
                    go_round
                    case rel => exact ⟨2, by omega, by go_num, Hr2⟩
                    case measure => simp [intOf]
                  · have m3 : ((((s[1]'hks).toNat : Int) - 32) != (((⟨#[73, 78, 66, 79, 88]⟩ : ByteArray)[1]'(by decide)).toNat : Int)) = true := by show ((((s[1]'hks).toNat : Int) - 32) != 78) = true; simpa using hd
                    have HN : Hid (¬ InboxP s) := Lib.hid fun h => hd (by have := h.2.2 1 (by omega); rw [HU.out] at this; exact this)
                    clear hd hb
                    go_wp2_with fail
                    go_ret2
                    exact CleanP.same HFP.out HN.out
                · have HU : Hid (upB (byteAt s 1) = ((s[1]'hks).toNat : Int)) := Lib.hid (by rw [hb]; unfold upB; rw [if_neg (by omega)])
                  have m1 : decide (97 ≤ ((s[1]'hks).toNat : Int)) = true := by simpa using hl
                  have m2 : decide (((s[1]'hks).toNat : Int) ≤ 122) = false := by simpa using hu
                  by_cases hd : ((s[1]'hks).toNat : Int) = 78
                  · have m3 : ((((s[1]'hks).toNat : Int)) != (((⟨#[73, 78, 66, 79, 88]⟩ : ByteArray)[1]'(by decide)).toNat : Int)) = false := by show ((((s[1]'hks).toNat : Int)) != 78) = false; simpa using hd
                    have Hr2 : Hid (∀ j, j < 2 → upB (byteAt s j) = byteAt inboxL j) := Lib.hid fun j hj => if e : j = 1 then by subst e; rw [HU.out]; exact hd else Hr.out j (by omega)
                    clear hd hb
                    go_wp2_with fail
                    go_round
                    case rel => exact ⟨2, by omega, by go_num, Hr2⟩
                    case measure => simp [intOf]
                  · have m3 : ((((s[1]'hks).toNat : Int)) != (((⟨#[73, 78, 66, 79, 88]⟩ : ByteArray)[1]'(by decide)).toNat : Int)) = true := by show ((((s[1]'hks).toNat : Int)) != 78) = true; simpa using hd
                    have HN : Hid (¬ InboxP s) := Lib.hid fun h => hd (by have := h.2.2 1 (by omega); rw [HU.out] at this; exact this)
                    clear hd hb
                    go_wp2_with fail
                    go_ret2
                    exact CleanP.same HFP.out HN.out
              · have HU : Hid (upB (byteAt s 1) = ((s[1]'hks).toNat : Int)) := Lib.hid (by rw [hb]; unfold upB; rw [if_neg (by omega)])
                have m1 : decide (97 ≤ ((s[1]'hks).toNat : Int)) = false := by simpa using hl
                by_cases hd : ((s[1]'hks).toNat : Int) = 78
                · have m3 : ((((s[1]'hks).toNat : Int)) != (((⟨#[73, 78, 66, 79, 88]⟩ : ByteArray)[1]'(by decide)).toNat : Int)) = false := by show ((((s[1]'hks).toNat : Int)) != 78) = false; simpa using hd
                  have Hr2 : Hid (∀ j, j < 2 → upB (byteAt s j) = byteAt inboxL j) := Lib.hid fun j hj => if e : j = 1 then by subst e; rw [HU.out]; exact hd else Hr.out j (by omega)
                  clear hd hb
                  go_wp2_with fail
                  go_round
                  case rel => exact ⟨2, by omega, by go_num, Hr2⟩
                  case measure => simp [intOf]
                · have m3 : ((((s[1]'hks).toNat : Int)) != (((⟨#[73, 78, 66, 79, 88]⟩ : ByteArray)[1]'(by decide)).toNat : Int)) = true := by show ((((s[1]'hks).toNat : Int)) != 78) = true; simpa using hd
                  have HN : Hid (¬ InboxP s) := Lib.hid fun h => hd (by have := h.2.2 1 (by omega); rw [HU.out] at this; exact this)
                  clear hd hb
                  go_wp2_with fail
                  go_ret2
                  exact CleanP.same HFP.out HN.out
            · have hks : 2 < s.size := by omega
              have hb := byteAt_of s 2 hks
              by_cases hl : 97 ≤ ((s[2]'hks).toNat : Int)
              · by_cases hu : ((s[2]'hks).toNat : Int) ≤ 122
                · have HU : Hid (upB (byteAt s 2) = ((s[2]'hks).toNat : Int) - 32) := Lib.hid (by rw [hb]; unfold upB; rw [if_pos ⟨hl, hu⟩])
                  have m1 : decide (97 ≤ ((s[2]'hks).toNat : Int)) = true := by simpa using hl
                  have m2 : decide (((s[2]'hks).toNat : Int) ≤ 122) = true := by simpa using hu
                  by_cases hd : ((s[2]'hks).toNat : Int) - 32 = 66
                  · have m3 : ((((s[2]'hks).toNat : Int) - 32) != (((⟨#[73, 78, 66, 79, 88]⟩ : ByteArray)[2]'(by decide)).toNat : Int)) = false := by show ((((s[2]'hks).toNat : Int) - 32) != 66) = false; simpa using hd
                    have Hr2 : Hid (∀ j, j < 3 → upB (byteAt s j) = byteAt inboxL j) := Lib.hid fun j hj => if e : j = 2 then by subst e; rw [HU.out]; exact hd else Hr.out j (by omega)
                    clear hd hb
                    go_wp2_with fail
                    go_round
                    case rel => exact ⟨3, by omega, by go_num, Hr2⟩
                    case measure => simp [intOf]
                  · have m3 : ((((s[2]'hks).toNat : Int) - 32) != (((⟨#[73, 78, 66, 79, 88]⟩ : ByteArray)[2]'(by decide)).toNat : Int)) = true := by show ((((s[2]'hks).toNat : Int) - 32) != 66) = true; simpa using hd
                    have HN : Hid (¬ InboxP s) := Lib.hid fun h => hd (by have := h.2.2 2 (by omega); rw [HU.out] at this; exact this)
                    clear hd hb
                    go_wp2_with fail
                    go_ret2
                    exact CleanP.same HFP.out HN.out
                · have HU : Hid (upB (byteAt s 2) = ((s[2]'hks).toNat : Int)) := Lib.hid (by rw [hb]; unfold upB; rw [if_neg (by omega)])
                  have m1 : decide (97 ≤ ((s[2]'hks).toNat : Int)) = true := by simpa using hl
                  have m2 : decide (((s[2]'hks).toNat : Int) ≤ 122) = false := by simpa using hu
                  by_cases hd : ((s[2]'hks).toNat : Int) = 66
                  · have m3 : ((((s[2]'hks).toNat : Int)) != (((⟨#[73, 78, 66, 79, 88]⟩ : ByteArray)[2]'(by decide)).toNat : Int)) = false := by show ((((s[2]'hks).toNat : Int)) != 66) = false; simpa using hd
                    have Hr2 : Hid (∀ j, j < 3 → upB (byteAt s j) = byteAt inboxL j) := Lib.hid fun j hj => if e : j = 2 then by subst e; rw [HU.out]; exact hd else Hr.out j (by omega)
                    clear hd hb
                    go_wp2_with fail
                    go_round
                    case rel => exact ⟨3, by omega, by go_num, Hr2⟩
                    case measure => simp [intOf]
                  · have m3 : ((((s[2]'hks).toNat : Int)) != (((⟨#[73, 78, 66, 79, 88]⟩ : ByteArray)[2]'(by decide)).toNat : Int)) = true := by show ((((s[2]'hks).toNat : Int)) != 66) = true; simpa using hd
                    have HN : Hid (¬ InboxP s) := Lib.hid fun h => hd (by have := h.2.2 2 (by omega); rw [HU.out] at this; exact this)
                    clear hd hb
                    go_wp2_with fail
                    go_ret2
                    exact CleanP.same HFP.out HN.out
              · have HU : Hid (upB (byteAt s 2) = ((s[2]'hks).toNat : Int)) := Lib.hid (by rw [hb]; unfold upB; rw [if_neg (by omega)])
                have m1 : decide (97 ≤ ((s[2]'hks).toNat : Int)) = false := by simpa using hl
                by_cases hd : ((s[2]'hks).toNat : Int) = 66
                · have m3 : ((((s[2]'hks).toNat : Int)) != (((⟨#[73, 78, 66, 79, 88]⟩ : ByteArray)[2]'(by decide)).toNat : Int)) = false := by show ((((s[2]'hks).toNat : Int)) != 66) = false; simpa using hd
                  have Hr2 : Hid (∀ j, j < 3 → upB (byteAt s j) = byteAt inboxL j) := Lib.hid fun j hj => if e : j = 2 then by subst e; rw [HU.out]; exact hd else Hr.out j (by omega)
                  clear hd hb
                  go_wp2_with fail
                  go_round
                  case rel => exact ⟨3, by omega, by go_num, Hr2⟩
                  case measure => simp [intOf]
                · have m3 : ((((s[2]'hks).toNat : Int)) != (((⟨#[73, 78, 66, 79, 88]⟩ : ByteArray)[2]'(by decide)).toNat : Int)) = true := by show ((((s[2]'hks).toNat : Int)) != 66) = true; simpa using hd
                  have HN : Hid (¬ InboxP s) := Lib.hid fun h => hd (by have := h.2.2 2 (by omega); rw [HU.out] at this; exact this)
                  clear hd hb
                  go_wp2_with fail
                  go_ret2
                  exact CleanP.same HFP.out HN.out
            · have hks : 3 < s.size := by omega
              have hb := byteAt_of s 3 hks
              by_cases hl : 97 ≤ ((s[3]'hks).toNat : Int)
              · by_cases hu : ((s[3]'hks).toNat : Int) ≤ 122
                · have HU : Hid (upB (byteAt s 3) = ((s[3]'hks).toNat : Int) - 32) := Lib.hid (by rw [hb]; unfold upB; rw [if_pos ⟨hl, hu⟩])
                  have m1 : decide (97 ≤ ((s[3]'hks).toNat : Int)) = true := by simpa using hl
                  have m2 : decide (((s[3]'hks).toNat : Int) ≤ 122) = true := by simpa using hu
                  by_cases hd : ((s[3]'hks).toNat : Int) - 32 = 79
                  · have m3 : ((((s[3]'hks).toNat : Int) - 32) != (((⟨#[73, 78, 66, 79, 88]⟩ : ByteArray)[3]'(by decide)).toNat : Int)) = false := by show ((((s[3]'hks).toNat : Int) - 32) != 79) = false; simpa using hd
                    have Hr2 : Hid (∀ j, j < 4 → upB (byteAt s j) = byteAt inboxL j) := Lib.hid fun j hj => if e : j = 3 then by subst e; rw [HU.out]; exact hd else Hr.out j (by omega)
                    clear hd hb
                    go_wp2_with fail
                    go_round
                    case rel => exact ⟨4, by omega, by go_num, Hr2⟩
                    case measure => simp [intOf]
                  · have m3 : ((((s[3]'hks).toNat : Int) - 32) != (((⟨#[73, 78, 66, 79, 88]⟩ : ByteArray)[3]'(by decide)).toNat : Int)) = true := by show ((((s[3]'hks).toNat : Int) - 32) != 79) = true; simpa using hd
                    have HN : Hid (¬ InboxP s) := Lib.hid fun h => hd (by have := h.2.2 3 (by omega); rw [HU.out] at this; exact this)
                    clear hd hb
                    go_wp2_with fail
                    go_ret2
                    exact CleanP.same HFP.out HN.out
                · have HU : Hid (upB (byteAt s 3) = ((s[3]'hks).toNat : Int)) := Lib.hid (by rw [hb]; unfold upB; rw [if_neg (by omega)])
                  have m1 : decide (97 ≤ ((s[3]'hks).toNat : Int)) = true := by simpa using hl
                  have m2 : decide (((s[3]'hks).toNat : Int) ≤ 122) = false := by simpa using hu
                  by_cases hd : ((s[3]'hks).toNat : Int) = 79
                  · have m3 : ((((s[3]'hks).toNat : Int)) != (((⟨#[73, 78, 66, 79, 88]⟩ : ByteArray)[3]'(by decide)).toNat : Int)) = false := by show ((((s[3]'hks).toNat : Int)) != 79) = false; simpa using hd
                    have Hr2 : Hid (∀ j, j < 4 → upB (byteAt s j) = byteAt inboxL j) := Lib.hid fun j hj => if e : j = 3 then by subst e; rw [HU.out]; exact hd else Hr.out j (by omega)
                    clear hd hb
                    go_wp2_with fail
                    go_round
                    case rel => exact ⟨4, by omega, by go_num, Hr2⟩
                    case measure => simp [intOf]
                  · have m3 : ((((s[3]'hks).toNat : Int)) != (((⟨#[73, 78, 66, 79, 88]⟩ : ByteArray)[3]'(by decide)).toNat : Int)) = true := by show ((((s[3]'hks).toNat : Int)) != 79) = true; simpa using hd
                    have HN : Hid (¬ InboxP s) := Lib.hid fun h => hd (by have := h.2.2 3 (by omega); rw [HU.out] at this; exact this)
                    clear hd hb
                    go_wp2_with fail
                    go_ret2
                    exact CleanP.same HFP.out HN.out
              · have HU : Hid (upB (byteAt s 3) = ((s[3]'hks).toNat : Int)) := Lib.hid (by rw [hb]; unfold upB; rw [if_neg (by omega)])
                have m1 : decide (97 ≤ ((s[3]'hks).toNat : Int)) = false := by simpa using hl
                by_cases hd : ((s[3]'hks).toNat : Int) = 79
                · have m3 : ((((s[3]'hks).toNat : Int)) != (((⟨#[73, 78, 66, 79, 88]⟩ : ByteArray)[3]'(by decide)).toNat : Int)) = false := by show ((((s[3]'hks).toNat : Int)) != 79) = false; simpa using hd
                  have Hr2 : Hid (∀ j, j < 4 → upB (byteAt s j) = byteAt inboxL j) := Lib.hid fun j hj => if e : j = 3 then by subst e; rw [HU.out]; exact hd else Hr.out j (by omega)
                  clear hd hb
                  go_wp2_with fail
                  go_round
                  case rel => exact ⟨4, by omega, by go_num, Hr2⟩
                  case measure => simp [intOf]
                · have m3 : ((((s[3]'hks).toNat : Int)) != (((⟨#[73, 78, 66, 79, 88]⟩ : ByteArray)[3]'(by decide)).toNat : Int)) = true := by show ((((s[3]'hks).toNat : Int)) != 79) = true; simpa using hd
                  have HN : Hid (¬ InboxP s) := Lib.hid fun h => hd (by have := h.2.2 3 (by omega); rw [HU.out] at this; exact this)
                  clear hd hb
                  go_wp2_with fail
                  go_ret2
                  exact CleanP.same HFP.out HN.out
            · have hks : 4 < s.size := by omega
              have hb := byteAt_of s 4 hks
              by_cases hl : 97 ≤ ((s[4]'hks).toNat : Int)
              · by_cases hu : ((s[4]'hks).toNat : Int) ≤ 122
                · have HU : Hid (upB (byteAt s 4) = ((s[4]'hks).toNat : Int) - 32) := Lib.hid (by rw [hb]; unfold upB; rw [if_pos ⟨hl, hu⟩])
                  have m1 : decide (97 ≤ ((s[4]'hks).toNat : Int)) = true := by simpa using hl
                  have m2 : decide (((s[4]'hks).toNat : Int) ≤ 122) = true := by simpa using hu
                  by_cases hd : ((s[4]'hks).toNat : Int) - 32 = 88
                  · have m3 : ((((s[4]'hks).toNat : Int) - 32) != (((⟨#[73, 78, 66, 79, 88]⟩ : ByteArray)[4]'(by decide)).toNat : Int)) = false := by show ((((s[4]'hks).toNat : Int) - 32) != 88) = false; simpa using hd
                    have Hr2 : Hid (∀ j, j < 5 → upB (byteAt s j) = byteAt inboxL j) := Lib.hid fun j hj => if e : j = 4 then by subst e; rw [HU.out]; exact hd else Hr.out j (by omega)
                    clear hd hb
                    go_wp2_with fail
                    go_round
                    case rel => exact ⟨5, by omega, by go_num, Hr2⟩
                    case measure => simp [intOf]
                  · have m3 : ((((s[4]'hks).toNat : Int) - 32) != (((⟨#[73, 78, 66, 79, 88]⟩ : ByteArray)[4]'(by decide)).toNat : Int)) = true := by show ((((s[4]'hks).toNat : Int) - 32) != 88) = true; simpa using hd
                    have HN : Hid (¬ InboxP s) := Lib.hid fun h => hd (by have := h.2.2 4 (by omega); rw [HU.out] at this; exact this)
                    clear hd hb
                    go_wp2_with fail
                    go_ret2
                    exact CleanP.same HFP.out HN.out
                · have HU : Hid (upB (byteAt s 4) = ((s[4]'hks).toNat : Int)) := Lib.hid (by rw [hb]; unfold upB; rw [if_neg (by omega)])
                  have m1 : decide (97 ≤ ((s[4]'hks).toNat : Int)) = true := by simpa using hl
                  have m2 : decide (((s[4]'hks).toNat : Int) ≤ 122) = false := by simpa using hu
                  by_cases hd : ((s[4]'hks).toNat : Int) = 88
                  · have m3 : ((((s[4]'hks).toNat : Int)) != (((⟨#[73, 78, 66, 79, 88]⟩ : ByteArray)[4]'(by decide)).toNat : Int)) = false := by show ((((s[4]'hks).toNat : Int)) != 88) = false; simpa using hd
                    have Hr2 : Hid (∀ j, j < 5 → upB (byteAt s j) = byteAt inboxL j) := Lib.hid fun j hj => if e : j = 4 then by subst e; rw [HU.out]; exact hd else Hr.out j (by omega)
                    clear hd hb
                    go_wp2_with fail
                    go_round
                    case rel => exact ⟨5, by omega, by go_num, Hr2⟩
                    case measure => simp [intOf]
                  · have m3 : ((((s[4]'hks).toNat : Int)) != (((⟨#[73, 78, 66, 79, 88]⟩ : ByteArray)[4]'(by decide)).toNat : Int)) = true := by show ((((s[4]'hks).toNat : Int)) != 88) = true; simpa using hd
                    have HN : Hid (¬ InboxP s) := Lib.hid fun h => hd (by have := h.2.2 4 (by omega); rw [HU.out] at this; exact this)
                    clear hd hb
                    go_wp2_with fail
                    go_ret2
                    exact CleanP.same HFP.out HN.out
              · have HU : Hid (upB (byteAt s 4) = ((s[4]'hks).toNat : Int)) := Lib.hid (by rw [hb]; unfold upB; rw [if_neg (by omega)])
                have m1 : decide (97 ≤ ((s[4]'hks).toNat : Int)) = false := by simpa using hl
                by_cases hd : ((s[4]'hks).toNat : Int) = 88
                · have m3 : ((((s[4]'hks).toNat : Int)) != (((⟨#[73, 78, 66, 79, 88]⟩ : ByteArray)[4]'(by decide)).toNat : Int)) = false := by show ((((s[4]'hks).toNat : Int)) != 88) = false; simpa using hd
                  have Hr2 : Hid (∀ j, j < 5 → upB (byteAt s j) = byteAt inboxL j) := Lib.hid fun j hj => if e : j = 4 then by subst e; rw [HU.out]; exact hd else Hr.out j (by omega)
                  clear hd hb
                  go_wp2_with fail
                  go_round
                  case rel => exact ⟨5, by omega, by go_num, Hr2⟩
                  case measure => simp [intOf]
                · have m3 : ((((s[4]'hks).toNat : Int)) != (((⟨#[73, 78, 66, 79, 88]⟩ : ByteArray)[4]'(by decide)).toNat : Int)) = true := by show ((((s[4]'hks).toNat : Int)) != 88) = true; simpa using hd
                  have HN : Hid (¬ InboxP s) := Lib.hid fun h => hd (by have := h.2.2 4 (by omega); rw [HU.out] at this; exact this)
                  clear hd hb
                  go_wp2_with fail
                  go_ret2
                  exact CleanP.same HFP.out HN.out
            · go_wp2_with fail
              go_ret2
              exact CleanP.inbox HFP.out ⟨h5', Hend.out, Hr.out⟩
        · have k2 : decide ((5 : Int) < (s.size : Int)) = true := by simpa using h6
          have k3 : (((s[5]'(by omega)).toNat : Int) != 47) = true := by rw [← byteAt_of s 5 (by omega)]; simpa using h7
          have HN : Hid (¬ InboxP s) := Lib.hid fun h => by
            rcases h.2.1 with e | e
            · omega
            · exact h7 e
          clear h7
          go_wp2_with fail
          go_ret2
          exact CleanP.same HFP.out HN.out
      · have k2 : decide ((5 : Int) < (s.size : Int)) = false := by simpa using h6
        have Hend : Hid (s.size = 5 ∨ byteAt s 5 = 47) := Lib.hid (.inl (by omega))
        go_wp2_with fail
        clear k1 k2
        go_loop [4] (fun i => ∃ k : Nat, k ≤ 5 ∧ i = .int .i64 k ∧ Hid (∀ j, j < k → upB (byteAt s j) = byteAt inboxL j)) (fun i => 5 - (intOf i).toNat)
        case atStart => exact ⟨0, by omega, rfl, Lib.hid fun j hj => by omega⟩
        case round =>
          obtain ⟨k, hk, rfl, Hr⟩ := hrel
          have hkc : k = 0 ∨ k = 1 ∨ k = 2 ∨ k = 3 ∨ k = 4 ∨ k = 5 := by omega
          rcases hkc with rfl | rfl | rfl | rfl | rfl | rfl
          · have hks : 0 < s.size := by omega
            have hb := byteAt_of s 0 hks
            by_cases hl : 97 ≤ ((s[0]'hks).toNat : Int)
            · by_cases hu : ((s[0]'hks).toNat : Int) ≤ 122
              · have HU : Hid (upB (byteAt s 0) = ((s[0]'hks).toNat : Int) - 32) := Lib.hid (by rw [hb]; unfold upB; rw [if_pos ⟨hl, hu⟩])
                have m1 : decide (97 ≤ ((s[0]'hks).toNat : Int)) = true := by simpa using hl
                have m2 : decide (((s[0]'hks).toNat : Int) ≤ 122) = true := by simpa using hu
                by_cases hd : ((s[0]'hks).toNat : Int) - 32 = 73
                · have m3 : ((((s[0]'hks).toNat : Int) - 32) != (((⟨#[73, 78, 66, 79, 88]⟩ : ByteArray)[0]'(by decide)).toNat : Int)) = false := by show ((((s[0]'hks).toNat : Int) - 32) != 73) = false; simpa using hd
                  have Hr2 : Hid (∀ j, j < 1 → upB (byteAt s j) = byteAt inboxL j) := Lib.hid fun j hj => if e : j = 0 then by subst e; rw [HU.out]; exact hd else Hr.out j (by omega)
                  clear hd hb
                  go_wp2_with fail
                  go_round
                  case rel => exact ⟨1, by omega, by go_num, Hr2⟩
                  case measure => simp [intOf]
                · have m3 : ((((s[0]'hks).toNat : Int) - 32) != (((⟨#[73, 78, 66, 79, 88]⟩ : ByteArray)[0]'(by decide)).toNat : Int)) = true := by show ((((s[0]'hks).toNat : Int) - 32) != 73) = true; simpa using hd
                  have HN : Hid (¬ InboxP s) := Lib.hid fun h => hd (by have := h.2.2 0 (by omega); rw [HU.out] at this; exact this)
                  clear hd hb
                  go_wp2_with fail
                  go_ret2
                  exact CleanP.same HFP.out HN.out
              · have HU : Hid (upB (byteAt s 0) = ((s[0]'hks).toNat : Int)) := Lib.hid (by rw [hb]; unfold upB; rw [if_neg (by omega)])
                have m1 : decide (97 ≤ ((s[0]'hks).toNat : Int)) = true := by simpa using hl
                have m2 : decide (((s[0]'hks).toNat : Int) ≤ 122) = false := by simpa using hu
                by_cases hd : ((s[0]'hks).toNat : Int) = 73
                · have m3 : ((((s[0]'hks).toNat : Int)) != (((⟨#[73, 78, 66, 79, 88]⟩ : ByteArray)[0]'(by decide)).toNat : Int)) = false := by show ((((s[0]'hks).toNat : Int)) != 73) = false; simpa using hd
                  have Hr2 : Hid (∀ j, j < 1 → upB (byteAt s j) = byteAt inboxL j) := Lib.hid fun j hj => if e : j = 0 then by subst e; rw [HU.out]; exact hd else Hr.out j (by omega)
                  clear hd hb
                  go_wp2_with fail
                  go_round
                  case rel => exact ⟨1, by omega, by go_num, Hr2⟩
                  case measure => simp [intOf]
                · have m3 : ((((s[0]'hks).toNat : Int)) != (((⟨#[73, 78, 66, 79, 88]⟩ : ByteArray)[0]'(by decide)).toNat : Int)) = true := by show ((((s[0]'hks).toNat : Int)) != 73) = true; simpa using hd
                  have HN : Hid (¬ InboxP s) := Lib.hid fun h => hd (by have := h.2.2 0 (by omega); rw [HU.out] at this; exact this)
                  clear hd hb
                  go_wp2_with fail
                  go_ret2
                  exact CleanP.same HFP.out HN.out
            · have HU : Hid (upB (byteAt s 0) = ((s[0]'hks).toNat : Int)) := Lib.hid (by rw [hb]; unfold upB; rw [if_neg (by omega)])
              have m1 : decide (97 ≤ ((s[0]'hks).toNat : Int)) = false := by simpa using hl
              by_cases hd : ((s[0]'hks).toNat : Int) = 73
              · have m3 : ((((s[0]'hks).toNat : Int)) != (((⟨#[73, 78, 66, 79, 88]⟩ : ByteArray)[0]'(by decide)).toNat : Int)) = false := by show ((((s[0]'hks).toNat : Int)) != 73) = false; simpa using hd
                have Hr2 : Hid (∀ j, j < 1 → upB (byteAt s j) = byteAt inboxL j) := Lib.hid fun j hj => if e : j = 0 then by subst e; rw [HU.out]; exact hd else Hr.out j (by omega)
                clear hd hb
                go_wp2_with fail
                go_round
                case rel => exact ⟨1, by omega, by go_num, Hr2⟩
                case measure => simp [intOf]
              · have m3 : ((((s[0]'hks).toNat : Int)) != (((⟨#[73, 78, 66, 79, 88]⟩ : ByteArray)[0]'(by decide)).toNat : Int)) = true := by show ((((s[0]'hks).toNat : Int)) != 73) = true; simpa using hd
                have HN : Hid (¬ InboxP s) := Lib.hid fun h => hd (by have := h.2.2 0 (by omega); rw [HU.out] at this; exact this)
                clear hd hb
                go_wp2_with fail
                go_ret2
                exact CleanP.same HFP.out HN.out
          · have hks : 1 < s.size := by omega
            have hb := byteAt_of s 1 hks
            by_cases hl : 97 ≤ ((s[1]'hks).toNat : Int)
            · by_cases hu : ((s[1]'hks).toNat : Int) ≤ 122
              · have HU : Hid (upB (byteAt s 1) = ((s[1]'hks).toNat : Int) - 32) := Lib.hid (by rw [hb]; unfold upB; rw [if_pos ⟨hl, hu⟩])
                have m1 : decide (97 ≤ ((s[1]'hks).toNat : Int)) = true := by simpa using hl
                have m2 : decide (((s[1]'hks).toNat : Int) ≤ 122) = true := by simpa using hu
                by_cases hd : ((s[1]'hks).toNat : Int) - 32 = 78
                · have m3 : ((((s[1]'hks).toNat : Int) - 32) != (((⟨#[73, 78, 66, 79, 88]⟩ : ByteArray)[1]'(by decide)).toNat : Int)) = false := by show ((((s[1]'hks).toNat : Int) - 32) != 78) = false; simpa using hd
                  have Hr2 : Hid (∀ j, j < 2 → upB (byteAt s j) = byteAt inboxL j) := Lib.hid fun j hj => if e : j = 1 then by subst e; rw [HU.out]; exact hd else Hr.out j (by omega)
                  clear hd hb
                  go_wp2_with fail
                  go_round
                  case rel => exact ⟨2, by omega, by go_num, Hr2⟩
                  case measure => simp [intOf]
                · have m3 : ((((s[1]'hks).toNat : Int) - 32) != (((⟨#[73, 78, 66, 79, 88]⟩ : ByteArray)[1]'(by decide)).toNat : Int)) = true := by show ((((s[1]'hks).toNat : Int) - 32) != 78) = true; simpa using hd
                  have HN : Hid (¬ InboxP s) := Lib.hid fun h => hd (by have := h.2.2 1 (by omega); rw [HU.out] at this; exact this)
                  clear hd hb
                  go_wp2_with fail
                  go_ret2
                  exact CleanP.same HFP.out HN.out
              · have HU : Hid (upB (byteAt s 1) = ((s[1]'hks).toNat : Int)) := Lib.hid (by rw [hb]; unfold upB; rw [if_neg (by omega)])
                have m1 : decide (97 ≤ ((s[1]'hks).toNat : Int)) = true := by simpa using hl
                have m2 : decide (((s[1]'hks).toNat : Int) ≤ 122) = false := by simpa using hu
                by_cases hd : ((s[1]'hks).toNat : Int) = 78
                · have m3 : ((((s[1]'hks).toNat : Int)) != (((⟨#[73, 78, 66, 79, 88]⟩ : ByteArray)[1]'(by decide)).toNat : Int)) = false := by show ((((s[1]'hks).toNat : Int)) != 78) = false; simpa using hd
                  have Hr2 : Hid (∀ j, j < 2 → upB (byteAt s j) = byteAt inboxL j) := Lib.hid fun j hj => if e : j = 1 then by subst e; rw [HU.out]; exact hd else Hr.out j (by omega)
                  clear hd hb
                  go_wp2_with fail
                  go_round
                  case rel => exact ⟨2, by omega, by go_num, Hr2⟩
                  case measure => simp [intOf]
                · have m3 : ((((s[1]'hks).toNat : Int)) != (((⟨#[73, 78, 66, 79, 88]⟩ : ByteArray)[1]'(by decide)).toNat : Int)) = true := by show ((((s[1]'hks).toNat : Int)) != 78) = true; simpa using hd
                  have HN : Hid (¬ InboxP s) := Lib.hid fun h => hd (by have := h.2.2 1 (by omega); rw [HU.out] at this; exact this)
                  clear hd hb
                  go_wp2_with fail
                  go_ret2
                  exact CleanP.same HFP.out HN.out
            · have HU : Hid (upB (byteAt s 1) = ((s[1]'hks).toNat : Int)) := Lib.hid (by rw [hb]; unfold upB; rw [if_neg (by omega)])
              have m1 : decide (97 ≤ ((s[1]'hks).toNat : Int)) = false := by simpa using hl
              by_cases hd : ((s[1]'hks).toNat : Int) = 78
              · have m3 : ((((s[1]'hks).toNat : Int)) != (((⟨#[73, 78, 66, 79, 88]⟩ : ByteArray)[1]'(by decide)).toNat : Int)) = false := by show ((((s[1]'hks).toNat : Int)) != 78) = false; simpa using hd
                have Hr2 : Hid (∀ j, j < 2 → upB (byteAt s j) = byteAt inboxL j) := Lib.hid fun j hj => if e : j = 1 then by subst e; rw [HU.out]; exact hd else Hr.out j (by omega)
                clear hd hb
                go_wp2_with fail
                go_round
                case rel => exact ⟨2, by omega, by go_num, Hr2⟩
                case measure => simp [intOf]
              · have m3 : ((((s[1]'hks).toNat : Int)) != (((⟨#[73, 78, 66, 79, 88]⟩ : ByteArray)[1]'(by decide)).toNat : Int)) = true := by show ((((s[1]'hks).toNat : Int)) != 78) = true; simpa using hd
                have HN : Hid (¬ InboxP s) := Lib.hid fun h => hd (by have := h.2.2 1 (by omega); rw [HU.out] at this; exact this)
                clear hd hb
                go_wp2_with fail
                go_ret2
                exact CleanP.same HFP.out HN.out
          · have hks : 2 < s.size := by omega
            have hb := byteAt_of s 2 hks
            by_cases hl : 97 ≤ ((s[2]'hks).toNat : Int)
            · by_cases hu : ((s[2]'hks).toNat : Int) ≤ 122
              · have HU : Hid (upB (byteAt s 2) = ((s[2]'hks).toNat : Int) - 32) := Lib.hid (by rw [hb]; unfold upB; rw [if_pos ⟨hl, hu⟩])
                have m1 : decide (97 ≤ ((s[2]'hks).toNat : Int)) = true := by simpa using hl
                have m2 : decide (((s[2]'hks).toNat : Int) ≤ 122) = true := by simpa using hu
                by_cases hd : ((s[2]'hks).toNat : Int) - 32 = 66
                · have m3 : ((((s[2]'hks).toNat : Int) - 32) != (((⟨#[73, 78, 66, 79, 88]⟩ : ByteArray)[2]'(by decide)).toNat : Int)) = false := by show ((((s[2]'hks).toNat : Int) - 32) != 66) = false; simpa using hd
                  have Hr2 : Hid (∀ j, j < 3 → upB (byteAt s j) = byteAt inboxL j) := Lib.hid fun j hj => if e : j = 2 then by subst e; rw [HU.out]; exact hd else Hr.out j (by omega)
                  clear hd hb
                  go_wp2_with fail
                  go_round
                  case rel => exact ⟨3, by omega, by go_num, Hr2⟩
                  case measure => simp [intOf]
                · have m3 : ((((s[2]'hks).toNat : Int) - 32) != (((⟨#[73, 78, 66, 79, 88]⟩ : ByteArray)[2]'(by decide)).toNat : Int)) = true := by show ((((s[2]'hks).toNat : Int) - 32) != 66) = true; simpa using hd
                  have HN : Hid (¬ InboxP s) := Lib.hid fun h => hd (by have := h.2.2 2 (by omega); rw [HU.out] at this; exact this)
                  clear hd hb
                  go_wp2_with fail
                  go_ret2
                  exact CleanP.same HFP.out HN.out
              · have HU : Hid (upB (byteAt s 2) = ((s[2]'hks).toNat : Int)) := Lib.hid (by rw [hb]; unfold upB; rw [if_neg (by omega)])
                have m1 : decide (97 ≤ ((s[2]'hks).toNat : Int)) = true := by simpa using hl
                have m2 : decide (((s[2]'hks).toNat : Int) ≤ 122) = false := by simpa using hu
                by_cases hd : ((s[2]'hks).toNat : Int) = 66
                · have m3 : ((((s[2]'hks).toNat : Int)) != (((⟨#[73, 78, 66, 79, 88]⟩ : ByteArray)[2]'(by decide)).toNat : Int)) = false := by show ((((s[2]'hks).toNat : Int)) != 66) = false; simpa using hd
                  have Hr2 : Hid (∀ j, j < 3 → upB (byteAt s j) = byteAt inboxL j) := Lib.hid fun j hj => if e : j = 2 then by subst e; rw [HU.out]; exact hd else Hr.out j (by omega)
                  clear hd hb
                  go_wp2_with fail
                  go_round
                  case rel => exact ⟨3, by omega, by go_num, Hr2⟩
                  case measure => simp [intOf]
                · have m3 : ((((s[2]'hks).toNat : Int)) != (((⟨#[73, 78, 66, 79, 88]⟩ : ByteArray)[2]'(by decide)).toNat : Int)) = true := by show ((((s[2]'hks).toNat : Int)) != 66) = true; simpa using hd
                  have HN : Hid (¬ InboxP s) := Lib.hid fun h => hd (by have := h.2.2 2 (by omega); rw [HU.out] at this; exact this)
                  clear hd hb
                  go_wp2_with fail
                  go_ret2
                  exact CleanP.same HFP.out HN.out
            · have HU : Hid (upB (byteAt s 2) = ((s[2]'hks).toNat : Int)) := Lib.hid (by rw [hb]; unfold upB; rw [if_neg (by omega)])
              have m1 : decide (97 ≤ ((s[2]'hks).toNat : Int)) = false := by simpa using hl
              by_cases hd : ((s[2]'hks).toNat : Int) = 66
              · have m3 : ((((s[2]'hks).toNat : Int)) != (((⟨#[73, 78, 66, 79, 88]⟩ : ByteArray)[2]'(by decide)).toNat : Int)) = false := by show ((((s[2]'hks).toNat : Int)) != 66) = false; simpa using hd
                have Hr2 : Hid (∀ j, j < 3 → upB (byteAt s j) = byteAt inboxL j) := Lib.hid fun j hj => if e : j = 2 then by subst e; rw [HU.out]; exact hd else Hr.out j (by omega)
                clear hd hb
                go_wp2_with fail
                go_round
                case rel => exact ⟨3, by omega, by go_num, Hr2⟩
                case measure => simp [intOf]
              · have m3 : ((((s[2]'hks).toNat : Int)) != (((⟨#[73, 78, 66, 79, 88]⟩ : ByteArray)[2]'(by decide)).toNat : Int)) = true := by show ((((s[2]'hks).toNat : Int)) != 66) = true; simpa using hd
                have HN : Hid (¬ InboxP s) := Lib.hid fun h => hd (by have := h.2.2 2 (by omega); rw [HU.out] at this; exact this)
                clear hd hb
                go_wp2_with fail
                go_ret2
                exact CleanP.same HFP.out HN.out
          · have hks : 3 < s.size := by omega
            have hb := byteAt_of s 3 hks
            by_cases hl : 97 ≤ ((s[3]'hks).toNat : Int)
            · by_cases hu : ((s[3]'hks).toNat : Int) ≤ 122
              · have HU : Hid (upB (byteAt s 3) = ((s[3]'hks).toNat : Int) - 32) := Lib.hid (by rw [hb]; unfold upB; rw [if_pos ⟨hl, hu⟩])
                have m1 : decide (97 ≤ ((s[3]'hks).toNat : Int)) = true := by simpa using hl
                have m2 : decide (((s[3]'hks).toNat : Int) ≤ 122) = true := by simpa using hu
                by_cases hd : ((s[3]'hks).toNat : Int) - 32 = 79
                · have m3 : ((((s[3]'hks).toNat : Int) - 32) != (((⟨#[73, 78, 66, 79, 88]⟩ : ByteArray)[3]'(by decide)).toNat : Int)) = false := by show ((((s[3]'hks).toNat : Int) - 32) != 79) = false; simpa using hd
                  have Hr2 : Hid (∀ j, j < 4 → upB (byteAt s j) = byteAt inboxL j) := Lib.hid fun j hj => if e : j = 3 then by subst e; rw [HU.out]; exact hd else Hr.out j (by omega)
                  clear hd hb
                  go_wp2_with fail
                  go_round
                  case rel => exact ⟨4, by omega, by go_num, Hr2⟩
                  case measure => simp [intOf]
                · have m3 : ((((s[3]'hks).toNat : Int) - 32) != (((⟨#[73, 78, 66, 79, 88]⟩ : ByteArray)[3]'(by decide)).toNat : Int)) = true := by show ((((s[3]'hks).toNat : Int) - 32) != 79) = true; simpa using hd
                  have HN : Hid (¬ InboxP s) := Lib.hid fun h => hd (by have := h.2.2 3 (by omega); rw [HU.out] at this; exact this)
                  clear hd hb
                  go_wp2_with fail
                  go_ret2
                  exact CleanP.same HFP.out HN.out
              · have HU : Hid (upB (byteAt s 3) = ((s[3]'hks).toNat : Int)) := Lib.hid (by rw [hb]; unfold upB; rw [if_neg (by omega)])
                have m1 : decide (97 ≤ ((s[3]'hks).toNat : Int)) = true := by simpa using hl
                have m2 : decide (((s[3]'hks).toNat : Int) ≤ 122) = false := by simpa using hu
                by_cases hd : ((s[3]'hks).toNat : Int) = 79
                · have m3 : ((((s[3]'hks).toNat : Int)) != (((⟨#[73, 78, 66, 79, 88]⟩ : ByteArray)[3]'(by decide)).toNat : Int)) = false := by show ((((s[3]'hks).toNat : Int)) != 79) = false; simpa using hd
                  have Hr2 : Hid (∀ j, j < 4 → upB (byteAt s j) = byteAt inboxL j) := Lib.hid fun j hj => if e : j = 3 then by subst e; rw [HU.out]; exact hd else Hr.out j (by omega)
                  clear hd hb
                  go_wp2_with fail
                  go_round
                  case rel => exact ⟨4, by omega, by go_num, Hr2⟩
                  case measure => simp [intOf]
                · have m3 : ((((s[3]'hks).toNat : Int)) != (((⟨#[73, 78, 66, 79, 88]⟩ : ByteArray)[3]'(by decide)).toNat : Int)) = true := by show ((((s[3]'hks).toNat : Int)) != 79) = true; simpa using hd
                  have HN : Hid (¬ InboxP s) := Lib.hid fun h => hd (by have := h.2.2 3 (by omega); rw [HU.out] at this; exact this)
                  clear hd hb
                  go_wp2_with fail
                  go_ret2
                  exact CleanP.same HFP.out HN.out
            · have HU : Hid (upB (byteAt s 3) = ((s[3]'hks).toNat : Int)) := Lib.hid (by rw [hb]; unfold upB; rw [if_neg (by omega)])
              have m1 : decide (97 ≤ ((s[3]'hks).toNat : Int)) = false := by simpa using hl
              by_cases hd : ((s[3]'hks).toNat : Int) = 79
              · have m3 : ((((s[3]'hks).toNat : Int)) != (((⟨#[73, 78, 66, 79, 88]⟩ : ByteArray)[3]'(by decide)).toNat : Int)) = false := by show ((((s[3]'hks).toNat : Int)) != 79) = false; simpa using hd
                have Hr2 : Hid (∀ j, j < 4 → upB (byteAt s j) = byteAt inboxL j) := Lib.hid fun j hj => if e : j = 3 then by subst e; rw [HU.out]; exact hd else Hr.out j (by omega)
                clear hd hb
                go_wp2_with fail
                go_round
                case rel => exact ⟨4, by omega, by go_num, Hr2⟩
                case measure => simp [intOf]
              · have m3 : ((((s[3]'hks).toNat : Int)) != (((⟨#[73, 78, 66, 79, 88]⟩ : ByteArray)[3]'(by decide)).toNat : Int)) = true := by show ((((s[3]'hks).toNat : Int)) != 79) = true; simpa using hd
                have HN : Hid (¬ InboxP s) := Lib.hid fun h => hd (by have := h.2.2 3 (by omega); rw [HU.out] at this; exact this)
                clear hd hb
                go_wp2_with fail
                go_ret2
                exact CleanP.same HFP.out HN.out
          · have hks : 4 < s.size := by omega
            have hb := byteAt_of s 4 hks
            by_cases hl : 97 ≤ ((s[4]'hks).toNat : Int)
            · by_cases hu : ((s[4]'hks).toNat : Int) ≤ 122
              · have HU : Hid (upB (byteAt s 4) = ((s[4]'hks).toNat : Int) - 32) := Lib.hid (by rw [hb]; unfold upB; rw [if_pos ⟨hl, hu⟩])
                have m1 : decide (97 ≤ ((s[4]'hks).toNat : Int)) = true := by simpa using hl
                have m2 : decide (((s[4]'hks).toNat : Int) ≤ 122) = true := by simpa using hu
                by_cases hd : ((s[4]'hks).toNat : Int) - 32 = 88
                · have m3 : ((((s[4]'hks).toNat : Int) - 32) != (((⟨#[73, 78, 66, 79, 88]⟩ : ByteArray)[4]'(by decide)).toNat : Int)) = false := by show ((((s[4]'hks).toNat : Int) - 32) != 88) = false; simpa using hd
                  have Hr2 : Hid (∀ j, j < 5 → upB (byteAt s j) = byteAt inboxL j) := Lib.hid fun j hj => if e : j = 4 then by subst e; rw [HU.out]; exact hd else Hr.out j (by omega)
                  clear hd hb
                  go_wp2_with fail
                  go_round
                  case rel => exact ⟨5, by omega, by go_num, Hr2⟩
                  case measure => simp [intOf]
                · have m3 : ((((s[4]'hks).toNat : Int) - 32) != (((⟨#[73, 78, 66, 79, 88]⟩ : ByteArray)[4]'(by decide)).toNat : Int)) = true := by show ((((s[4]'hks).toNat : Int) - 32) != 88) = true; simpa using hd
                  have HN : Hid (¬ InboxP s) := Lib.hid fun h => hd (by have := h.2.2 4 (by omega); rw [HU.out] at this; exact this)
                  clear hd hb
                  go_wp2_with fail
                  go_ret2
                  exact CleanP.same HFP.out HN.out
              · have HU : Hid (upB (byteAt s 4) = ((s[4]'hks).toNat : Int)) := Lib.hid (by rw [hb]; unfold upB; rw [if_neg (by omega)])
                have m1 : decide (97 ≤ ((s[4]'hks).toNat : Int)) = true := by simpa using hl
                have m2 : decide (((s[4]'hks).toNat : Int) ≤ 122) = false := by simpa using hu
                by_cases hd : ((s[4]'hks).toNat : Int) = 88
                · have m3 : ((((s[4]'hks).toNat : Int)) != (((⟨#[73, 78, 66, 79, 88]⟩ : ByteArray)[4]'(by decide)).toNat : Int)) = false := by show ((((s[4]'hks).toNat : Int)) != 88) = false; simpa using hd
                  have Hr2 : Hid (∀ j, j < 5 → upB (byteAt s j) = byteAt inboxL j) := Lib.hid fun j hj => if e : j = 4 then by subst e; rw [HU.out]; exact hd else Hr.out j (by omega)
                  clear hd hb
                  go_wp2_with fail
                  go_round
                  case rel => exact ⟨5, by omega, by go_num, Hr2⟩
                  case measure => simp [intOf]
                · have m3 : ((((s[4]'hks).toNat : Int)) != (((⟨#[73, 78, 66, 79, 88]⟩ : ByteArray)[4]'(by decide)).toNat : Int)) = true := by show ((((s[4]'hks).toNat : Int)) != 88) = true; simpa using hd
                  have HN : Hid (¬ InboxP s) := Lib.hid fun h => hd (by have := h.2.2 4 (by omega); rw [HU.out] at this; exact this)
                  clear hd hb
                  go_wp2_with fail
                  go_ret2
                  exact CleanP.same HFP.out HN.out
            · have HU : Hid (upB (byteAt s 4) = ((s[4]'hks).toNat : Int)) := Lib.hid (by rw [hb]; unfold upB; rw [if_neg (by omega)])
              have m1 : decide (97 ≤ ((s[4]'hks).toNat : Int)) = false := by simpa using hl
              by_cases hd : ((s[4]'hks).toNat : Int) = 88
              · have m3 : ((((s[4]'hks).toNat : Int)) != (((⟨#[73, 78, 66, 79, 88]⟩ : ByteArray)[4]'(by decide)).toNat : Int)) = false := by show ((((s[4]'hks).toNat : Int)) != 88) = false; simpa using hd
                have Hr2 : Hid (∀ j, j < 5 → upB (byteAt s j) = byteAt inboxL j) := Lib.hid fun j hj => if e : j = 4 then by subst e; rw [HU.out]; exact hd else Hr.out j (by omega)
                clear hd hb
                go_wp2_with fail
                go_round
                case rel => exact ⟨5, by omega, by go_num, Hr2⟩
                case measure => simp [intOf]
              · have m3 : ((((s[4]'hks).toNat : Int)) != (((⟨#[73, 78, 66, 79, 88]⟩ : ByteArray)[4]'(by decide)).toNat : Int)) = true := by show ((((s[4]'hks).toNat : Int)) != 88) = true; simpa using hd
                have HN : Hid (¬ InboxP s) := Lib.hid fun h => hd (by have := h.2.2 4 (by omega); rw [HU.out] at this; exact this)
                clear hd hb
                go_wp2_with fail
                go_ret2
                exact CleanP.same HFP.out HN.out
          · go_wp2_with fail
            go_ret2
            exact CleanP.inbox HFP.out ⟨h5', Hend.out, Hr.out⟩

end Go.Proofs.YtjamgkcmpcnfpaaGreatDoor

/-
  The document's 'formed' of names.
-/
import Derived.Test.YtjamgkcmpcnfpaaGreatDoorPlain
namespace Go.Proofs.YtjamgkcmpcnfpaaGreatDoor
open Go.RowKit

/-- What 'formed' tells of a name. -/
def FormedP (s : ByteArray) : Prop := 1 ≤ s.size ∧ s.size ≤ 40 ∧ (∀ j, j < s.size → spotOk s j) ∧ slashes s s.size ≤ 3

set_option maxHeartbeats 4000000 in
set_option maxRecDepth 100000 in
theorem formed_any (s : ByteArray) (w : World) (hs : s.size ≤ 9223372036854775806) : Calls Tryz.prog 28 #[.string s] w (Tells (FormedP s) w) := by
  by_cases h1 : (s.size : Int) < 1
  · have k1 : decide ((s.size : Int) < 1) = true := by simpa using h1
    clear h1
    generalize FormedP s = Q
    go_enter Tryz.func28, Tryz.ntmps28
    go_wp2_with fail
    go_ret
    exact Tells.no
  · have k1 : decide ((s.size : Int) < 1) = false := by simpa using h1
    by_cases h2 : (40 : Int) < (s.size : Int)
    · have k2 : decide ((40 : Int) < (s.size : Int)) = true := by simpa using h2
      clear h1 h2
      generalize FormedP s = Q
      go_enter Tryz.func28, Tryz.ntmps28
      go_wp2_with fail
      go_ret
      exact Tells.no
    · have k2 : decide ((40 : Int) < (s.size : Int)) = false := by simpa using h2
      have h40 : s.size ≤ 40 := by omega
      have h01 : 1 ≤ s.size := by omega
      clear h1 h2
      have HQ : ∀ Q, FormedP s = Q → Hid ((∀ j, j < s.size → spotOk s j) → slashes s s.size ≤ 3 → Q) := by
        rintro Q rfl
        exact Lib.hid fun a b => ⟨h01, h40, a, b⟩
      generalize hQ : FormedP s = Q at *
      have HQ2 := HQ _ rfl
      clear HQ hQ
      go_enter Tryz.func28, Tryz.ntmps28
      go_wp2_with fail
      clear k1 k2
      go_loop [3, 4] (fun p i => ∃ (k : Nat) (q : Int), k ≤ s.size ∧ i = .int .i64 k ∧ p = .int .i64 q ∧ 1 ≤ q ∧ q ≤ k + 1 ∧ Hid (q = ((slashes s k + 1 : Nat) : Int)) ∧ Hid (∀ j, j < k → spotOk s j)) (fun _ i => s.size - (intOf i).toNat)
      case atStart => exact ⟨0, 1, by omega, rfl, rfl, by omega, by omega, Lib.hid rfl, Lib.hid fun j hj => by omega⟩
      case round =>
        obtain ⟨k, q, hk, rfl, rfl, hq1, hq2, Hq, Hr⟩ := hrel
        by_cases hlt : k < s.size
        · have hss := slashes_succ s k hlt
          have hb := byteAt_of s k hlt
          have HB := Lib.hid hb
          have HS := Lib.hid hss; clear hss
          by_cases hp : plainB (s[k].toNat : Int) = true
          · by_cases hc : (s[k].toNat : Int) = 47
            · have hc' : ((s[k].toNat : Int) == 47) = true := by simpa using hc
              cases k with
              | zero =>
                have Hp := Lib.hid hp; clear hp
                clear hc hb
                go_wp2_with (go_at_call 55; refine (plain_any _ _).mono ?_; rintro e w' ⟨rfl, rfl⟩; rw [Hp.out])
                go_ret
                exact Tells.no
              | succ k =>
                have Hp := Lib.hid hp; clear hp
                have Hc := Lib.hid hc; clear hc
                by_cases hl : (k : Int) + 1 = (s.size : Int) - 1
                · clear hb
                  have k1 : ((k : Int) + 1 == (s.size : Int) - 1) = true := by simpa using hl
                  clear hl
                  go_wp2_with (go_at_call 55; refine (plain_any _ _).mono ?_; rintro e w' ⟨rfl, rfl⟩; rw [Hp.out])
                  go_ret
                  exact Tells.no
                · have k1 : ((k : Int) + 1 == (s.size : Int) - 1) = false := by simpa using hl
                  have hlast : k + 1 + 1 ≠ s.size := by omega
                  have Hlast := Lib.hid hlast
                  clear hl hlast
                  have hb2 := byteAt_of s k (by omega)
                  have hlt2 : k < s.size := by omega
                  by_cases hc2 : (s[k].toNat : Int) = 47
                  · have hc2' : ((s[k].toNat : Int) == 47) = true := by simpa using hc2
                    clear hb hb2 hc2
                    go_wp2_with (go_at_call 55; refine (plain_any _ _).mono ?_; rintro e w' ⟨rfl, rfl⟩; rw [Hp.out])
                    go_ret
                    exact Tells.no
                  · have hc2' : ((s[k].toNat : Int) == 47) = false := by simpa using hc2
                    have Hr2 : Hid (∀ j, j < k + 1 + 1 → spotOk s j) := Lib.hid fun j hj =>
                      if e : j = k + 1 then e ▸ ⟨by rw [hb]; exact Hp.out, fun _ => ⟨by omega, Hlast.out, fun h => hc2 (by rw [← hb2]; exact h)⟩⟩ else Hr.out j (by omega)
                    have Hq2 : Hid (q + 1 = ((slashes s (k + 1 + 1) + 1 : Nat) : Int)) := Lib.hid (by rw [HS.out, hb, if_pos Hc.out, Hq.out]; omega)
                    clear hb hb2 hc2
                    go_wp2_with (go_at_call 55; refine (plain_any _ _).mono ?_; rintro e w' ⟨rfl, rfl⟩; rw [Hp.out])
                    go_round
                    case rel => exact ⟨k + 1 + 1, q + 1, by omega, by go_num, rfl, by omega, by omega, Hq2, Hr2⟩
                    case measure => simp [intOf]; omega
            · have hc' : ((s[k].toNat : Int) == 47) = false := by simpa using hc
              have Hr2 : Hid (∀ j, j < k + 1 → spotOk s j) := Lib.hid fun j hj => if e : j = k then e ▸ ⟨by rw [hb]; exact hp, fun h => absurd (hb.symm.trans h) hc⟩ else Hr.out j (by omega)
              have Hq2 : Hid (q = ((slashes s (k + 1) + 1 : Nat) : Int)) := Lib.hid (by have h1 := HS.out; rw [hb, if_neg hc] at h1; have h2 := Hq.out; omega)
              have Hp := Lib.hid hp; clear hp
              clear hc hb
              go_wp2_with (go_at_call 55; refine (plain_any _ _).mono ?_; rintro e w' ⟨rfl, rfl⟩; rw [Hp.out])
              go_round
              case rel => exact ⟨k + 1, q, by omega, by go_num, rfl, by omega, by omega, Hq2, Hr2⟩
              case measure => simp [intOf]; omega
          · have hp' : plainB (s[k].toNat : Int) = false := by simpa using hp
            have Hp := Lib.hid hp'; clear hp hp' hb
            go_wp2_with (go_at_call 55; refine (plain_any _ _).mono ?_; rintro e w' ⟨rfl, rfl⟩; rw [Hp.out])
            go_ret
            exact Tells.no
        · have e : k = s.size := by omega
          subst e
          by_cases h4 : q ≤ 4
          · have k4 : decide (q ≤ 4) = true := by simpa using h4
            have h5 : slashes s s.size ≤ 3 := by have := Hq.out; omega
            have H5 := Lib.hid h5; clear h4 h5
            go_wp2_with fail
            go_ret
            exact Tells.yes (HQ2.out Hr.out H5.out)
          · have k4 : decide (q ≤ 4) = false := by simpa using h4
            clear h4
            go_wp2_with fail
            go_ret
            exact Tells.no

end Go.Proofs.YtjamgkcmpcnfpaaGreatDoor

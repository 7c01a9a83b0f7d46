/-
  The reference's dates (07): 'Short', 'Parse'; the cursor's 'day'.
-/
import Derived.Test.YtjamgkcmpcnfpaaGreatDoorS22
set_option linter.unusedVariables false
set_option linter.unusedSimpArgs false

namespace Go.Proofs.YtjamgkcmpcnfpaaGreatDoor
open Go.RowKit

/-- Two numbers are returned; what was there stands. -/
def IntInt (w : World) (e : Ending) (w' : World) : Prop := ∃ v n : Int, e = .returned (.tuple #[.int .i64 v, .int .i64 n]) ∧ Below w.heap.size w w'

set_option maxHeartbeats 16000000 in
set_option maxRecDepth 100000 in
theorem Short07 (s : ByteArray) (w : World) (hs : s.size ≤ 2000) : Calls Tryz.prog 206 #[.string s] w (IntInt w) := by
  by_cases h11 : 11 < s.size
  · have h11' : decide ((11 : Int) < (s.size : Int)) = true := by simp; omega
    go_enter Tryz.func206, Tryz.ntmps206
    go_wp2_with fail
    go_ret2
    exact ⟨_, _, rfl, Below.refl _ _⟩
  · have h11' : decide ((11 : Int) < (s.size : Int)) = false := by simp; omega
    go_enter Tryz.func206, Tryz.ntmps206
    go_wp2_with fail
    refine (split07 s 45 w hs).mono ?_
    rintro e W1 ⟨v, n, rfl, hn1, hns, hRl, hB1⟩
    obtain ⟨g, cap, rfl, hg, hgl, _, hel⟩ := hRl.at_ (by omega)
    have Hel := Lib.hid hel
    have HB1 := Lib.hid hB1
    clear hel hRl hB1
    by_cases h3 : n = 3
    · subst h3
      obtain ⟨x0, ⟨t0, rfl, hts0⟩, _, hcell0⟩ := Hel.out 0 (by omega)
      have c0 := hcell0 0 _ rfl
      obtain ⟨x1, ⟨t1, rfl, hts1⟩, _, hcell1⟩ := Hel.out 1 (by omega)
      have c1 := hcell1 0 _ rfl
      obtain ⟨x2, ⟨t2, rfl, hts2⟩, _, hcell2⟩ := Hel.out 2 (by omega)
      have c2 := hcell2 0 _ rfl
      simp only [Nat.zero_mul, Nat.one_mul, Nat.mul_one, Nat.add_zero, Nat.zero_add] at c0 c1 c2
      clear hcell0 hcell1 hcell2 Hel
      go_wp2_with fail
      go_region_held3 (fun w' => w'.cell? ⟨g, 0, none⟩ = some (.string t0) ∧ w'.cell? ⟨g, 1, none⟩ = some (.string t1) ∧ w'.cell? ⟨g, 2, none⟩ = some (.string t2)) (first | exact ⟨c0, c1, c2⟩ | exact ⟨k0, k1, k2⟩ | go_keep)
        (first | (go_at_call 130; refine (ymd07 t0 t1 t2 _ (by omega) (by omega) (by omega)).mono ?_; rintro e w' ⟨d, r, rfl, hbw⟩; have k0 : w'.cell? ⟨g, 0, none⟩ = some (.string t0) := (hbw.cell (p := ⟨g, 0, none⟩) hgl).trans c0; have k1 : w'.cell? ⟨g, 1, none⟩ = some (.string t1) := (hbw.cell (p := ⟨g, 1, none⟩) hgl).trans c1; have k2 : w'.cell? ⟨g, 2, none⟩ = some (.string t2) := (hbw.cell (p := ⟨g, 2, none⟩) hgl).trans c2; have HBW := Lib.hid (HB1.out.drew.trans (hbw.mono HB1.out.size)); clear hbw))
      cases r
      · go_wp2_with fail
        go_ret2
        exact ⟨_, _, rfl, HBW.out⟩
      · by_cases d0 : d < 0
        · have d0' : decide (d < 0) = true := by simpa using d0
          go_wp2_with fail
          go_ret2
          exact ⟨_, _, rfl, HBW.out⟩
        · have d0' : decide (d < 0) = false := by simpa using d0
          go_wp2_with fail
          go_ret2
          exact ⟨_, _, rfl, HBW.out⟩
    · have h3' : ((n : Int) != 3) = true := by simp; omega
      go_wp2_with fail
      go_ret2
      exact ⟨_, _, rfl, HB1.out⟩

set_option maxHeartbeats 2000000 in
theorem day24 (g : Nat) (S : Src) (i a : Nat) (bad : Bool) (kv : Value) (w : World) (h : Cur g S w i a bad kv) :
    Calls Tryz.prog 174 #[CC g] w (IntMoves g S kv (left S i a) bad w) := by
  have hI := Lib.hid (str24 g S i a bad kv ⟨#[]⟩ w h (by decide))
  clear h
  go_enter Tryz.func174, Tryz.ntmps174
  go_wp2_with fail
  refine hI.out.mono ?_
  rintro e w1 ⟨s, rfl, hs, i1, a1, bad1, hC1, hK1, hl1, hb1⟩
  have HC1 := Lib.hid hC1
  have HK1 := Lib.hid hK1
  have HB1 := Lib.hid hb1
  clear hC1 hK1 hb1
  go_wp2_with fail
  refine (Short07 s w1 hs).mono ?_
  rintro e w2 ⟨v, m, rfl, hB⟩
  have HB := Lib.hid hB
  clear hB
  go_wp2_with fail
  refine (fail_any g S i1 a1 bad1 _ kv _ (HC1.out.step HB.out)).mono ?_
  rintro e w3 ⟨rfl, hC3, hK3⟩
  go_wp2_with fail
  go_ret
  exact ⟨v, rfl, i1, a1, _, hC3, (HK1.out.andBelow HB.out HK1.out.size).trans hK3, hl1, fun h => by rw [HB1.out h]; rfl⟩

/-- The three texts of a date. -/
def DateQ (w : World) (g : Nat) (t1 t2 : ByteArray) (W : World) : Prop :=
  ∃ u0 : ByteArray, u0.size ≤ 2000 ∧ W.cell? ⟨g, 0, none⟩ = some (.string u0) ∧ W.cell? ⟨g, 1, none⟩ = some (.string t1) ∧ W.cell? ⟨g, 2, none⟩ = some (.string t2) ∧ Below w.heap.size w W ∧ g < W.heap.size

set_option maxHeartbeats 16000000 in
set_option maxRecDepth 100000 in
theorem Parse07 (s : ByteArray) (w : World) (hs : s.size ≤ 2000) : Calls Tryz.prog 101 #[.string s] w (IntInt w) := by
  by_cases h26 : s.size = 26
  · have h26' : ((s.size : Int) != 26) = false := by simp [h26]
    have l26 : 26 ≤ s.size := by omega
    have i11 : 11 < s.size := by omega
    have i20 : 20 < s.size := by omega
    have z11 : (11 : Int) ≤ (s.size : Int) := by omega
    have z20 : (20 : Int) ≤ (s.size : Int) := by omega
    have z21 : (21 : Int) ≤ (s.size : Int) := by omega
    have y11 : 11 ≤ s.size := by omega
    have y20 : 20 ≤ s.size := by omega
    have y21 : 21 ≤ s.size := by omega
    have q1 : (s.extract 0 11).size ≤ 2000 := by rw [ByteArray.size_extract]; omega
    have q2 : (s.extract 12 20).size ≤ 2000 := by rw [ByteArray.size_extract]; omega
    have q3 : (s.extract 21 s.size).size ≤ 2000 := by rw [ByteArray.size_extract]; omega
    clear h26
    by_cases e11 : (s[11].toNat : Int) = 32
    · have e11' : ((s[11].toNat : Int) != 32) = false := by simp [e11]
      clear e11
      by_cases e20 : (s[20].toNat : Int) = 32
      · have e20' : ((s[20].toNat : Int) != 32) = false := by simp [e20]
        clear e20
        go_enter Tryz.func101, Tryz.ntmps101
        go_wp2_with fail
        refine (split07 (s.extract 0 11) 45 w q1).mono ?_
        rintro e W1 ⟨v, n, rfl, hn1, hns, hRl, hB1⟩
        obtain ⟨g, cap, rfl, hg, hgl, hfz, hel⟩ := hRl.at_ (by omega)
        have Hel := Lib.hid hel
        have HB1 := Lib.hid hB1
        clear hel hRl hB1
        by_cases h3 : n = 3
        · subst h3
          obtain ⟨x0, ⟨t0, rfl, hts0⟩, _, hcell0⟩ := Hel.out 0 (by omega)
          have c0 := hcell0 0 _ rfl
          obtain ⟨x1, ⟨t1, rfl, hts1⟩, _, hcell1⟩ := Hel.out 1 (by omega)
          have c1 := hcell1 0 _ rfl
          obtain ⟨x2, ⟨t2, rfl, hts2⟩, _, hcell2⟩ := Hel.out 2 (by omega)
          have c2 := hcell2 0 _ rfl
          simp only [Nat.zero_mul, Nat.one_mul, Nat.mul_one, Nat.add_zero, Nat.zero_add] at c0 c1 c2
          have f0 := hfz 0
          clear hcell0 hcell1 hcell2 Hel hfz
          by_cases m2 : t0.size = 2
          · have m2' : ((t0.size : Int) != 2) = false := by simp [m2]
            have p2 : 0 < t0.size := by omega
            have p1 : (1 : Int) ≤ (t0.size : Int) := by omega
            have p3 : 1 ≤ t0.size := by omega
            clear m2
            by_cases s0 : (t0[0].toNat : Int) = 32
            · have s0' : ((t0[0].toNat : Int) == 32) = true := by simpa using s0
              clear s0
              go_wp2_with fail
              refine gen_wp (Q := DateQ w g t1 t2) ⟨t0.extract 1 t0.size, by rw [ByteArray.size_extract]; omega, World.cell?_setCell_same _ _ _ c0, (World.cell?_setCell_other _ _ _ _ (by simp)).trans c1, (World.cell?_setCell_other _ _ _ _ (by simp)).trans c2, HB1.out.setCell (p := ⟨g, 0, none⟩) hg _, by simpa [World.setCell] using hgl⟩ ?_
              intro Wq hQ
              obtain ⟨u0, hu0, k0, k1, k2, hBW, hgW⟩ := hQ
              have HBq := Lib.hid hBW
              clear hBW c0 c1 c2 f0
              go_region_held3 (fun w' => w'.cell? ⟨g, 0, none⟩ = some (.string u0) ∧ w'.cell? ⟨g, 1, none⟩ = some (.string t1) ∧ w'.cell? ⟨g, 2, none⟩ = some (.string t2)) (first | exact ⟨k0, k1, k2⟩ | exact ⟨j0, j1, j2⟩ | go_keep)
                (first | (go_at_call 130; refine (ymd07 u0 t1 t2 _ (by omega) (by omega) (by omega)).mono ?_; rintro e w' ⟨d, r, rfl, hbw⟩; have j0 : w'.cell? ⟨g, 0, none⟩ = some (.string u0) := (hbw.cell (p := ⟨g, 0, none⟩) hgW).trans k0; have j1 : w'.cell? ⟨g, 1, none⟩ = some (.string t1) := (hbw.cell (p := ⟨g, 1, none⟩) hgW).trans k1; have j2 : w'.cell? ⟨g, 2, none⟩ = some (.string t2) := (hbw.cell (p := ⟨g, 2, none⟩) hgW).trans k2; have HBW := Lib.hid (HBq.out.drew.trans (hbw.mono HBq.out.size)); clear hbw))
              go_wp2_with fail
              refine (clock07 _ _ q2).mono ?_
              rintro e w3 ⟨c, rfl, hb3⟩
              have HB3 := Lib.hid (HBW.out.trans (hb3.mono HBW.out.size))
              clear hb3 j0 j1 j2 k0 k1 k2
              go_wp2_with fail
              refine (zone07 _ _ q3).mono ?_
              rintro e w4 ⟨z, is, rfl, hb4⟩
              have HB4 := Lib.hid (HB3.out.trans (hb4.mono HB3.out.size))
              clear hb4
              cases r
              · go_wp2_with fail
                go_ret2
                exact ⟨_, _, rfl, HB4.out⟩
              · by_cases cc : c < 0
                · have cc' : decide (c < 0) = true := by simpa using cc
                  go_wp2_with fail
                  go_ret2
                  exact ⟨_, _, rfl, HB4.out⟩
                · have cc' : decide (c < 0) = false := by simpa using cc
                  clear cc
                  cases is
                  · go_wp2_with fail
                    go_ret2
                    exact ⟨_, _, rfl, HB4.out⟩
                  · go_wp2_with fail
                    all_goals (go_ret2; exact ⟨_, _, rfl, HB4.out⟩)
            · have s0' : ((t0[0].toNat : Int) == 32) = false := by simpa using s0
              clear s0
              go_wp2_with fail
              refine gen_wp (Q := DateQ w g t1 t2) ⟨t0, by omega, c0, c1, c2, HB1.out, hgl⟩ ?_
              intro Wq hQ
              obtain ⟨u0, hu0, k0, k1, k2, hBW, hgW⟩ := hQ
              have HBq := Lib.hid hBW
              clear hBW c0 c1 c2 f0
              go_region_held3 (fun w' => w'.cell? ⟨g, 0, none⟩ = some (.string u0) ∧ w'.cell? ⟨g, 1, none⟩ = some (.string t1) ∧ w'.cell? ⟨g, 2, none⟩ = some (.string t2)) (first | exact ⟨k0, k1, k2⟩ | exact ⟨j0, j1, j2⟩ | go_keep)
                (first | (go_at_call 130; refine (ymd07 u0 t1 t2 _ (by omega) (by omega) (by omega)).mono ?_; rintro e w' ⟨d, r, rfl, hbw⟩; have j0 : w'.cell? ⟨g, 0, none⟩ = some (.string u0) := (hbw.cell (p := ⟨g, 0, none⟩) hgW).trans k0; have j1 : w'.cell? ⟨g, 1, none⟩ = some (.string t1) := (hbw.cell (p := ⟨g, 1, none⟩) hgW).trans k1; have j2 : w'.cell? ⟨g, 2, none⟩ = some (.string t2) := (hbw.cell (p := ⟨g, 2, none⟩) hgW).trans k2; have HBW := Lib.hid (HBq.out.drew.trans (hbw.mono HBq.out.size)); clear hbw))
              go_wp2_with fail
              refine (clock07 _ _ q2).mono ?_
              rintro e w3 ⟨c, rfl, hb3⟩
              have HB3 := Lib.hid (HBW.out.trans (hb3.mono HBW.out.size))
              clear hb3 j0 j1 j2 k0 k1 k2
              go_wp2_with fail
              refine (zone07 _ _ q3).mono ?_
              rintro e w4 ⟨z, is, rfl, hb4⟩
              have HB4 := Lib.hid (HB3.out.trans (hb4.mono HB3.out.size))
              clear hb4
              cases r
              · go_wp2_with fail
                go_ret2
                exact ⟨_, _, rfl, HB4.out⟩
              · by_cases cc : c < 0
                · have cc' : decide (c < 0) = true := by simpa using cc
                  go_wp2_with fail
                  go_ret2
                  exact ⟨_, _, rfl, HB4.out⟩
                · have cc' : decide (c < 0) = false := by simpa using cc
                  clear cc
                  cases is
                  · go_wp2_with fail
                    go_ret2
                    exact ⟨_, _, rfl, HB4.out⟩
                  · go_wp2_with fail
                    all_goals (go_ret2; exact ⟨_, _, rfl, HB4.out⟩)
          · have m2' : ((t0.size : Int) != 2) = true := by simp; omega
            clear m2
            go_wp2_with fail
            go_ret2
            exact ⟨_, _, rfl, HB1.out⟩
        · have h3' : ((n : Int) != 3) = true := by simp; omega
          go_wp2_with fail
          go_ret2
          exact ⟨_, _, rfl, HB1.out⟩
      · have e20' : ((s[20].toNat : Int) != 32) = true := by simpa using e20
        clear e20
        go_enter Tryz.func101, Tryz.ntmps101
        go_wp2_with fail
        go_ret2
        exact ⟨_, _, rfl, Below.refl _ _⟩
    · have e11' : ((s[11].toNat : Int) != 32) = true := by simpa using e11
      clear e11
      go_enter Tryz.func101, Tryz.ntmps101
      go_wp2_with fail
      go_ret2
      exact ⟨_, _, rfl, Below.refl _ _⟩
  · have h26' : ((s.size : Int) != 26) = true := by simp; omega
    clear h26
    go_enter Tryz.func101, Tryz.ntmps101
    go_wp2_with fail
    go_ret2
    exact ⟨_, _, rfl, Below.refl _ _⟩

end Go.Proofs.YtjamgkcmpcnfpaaGreatDoor

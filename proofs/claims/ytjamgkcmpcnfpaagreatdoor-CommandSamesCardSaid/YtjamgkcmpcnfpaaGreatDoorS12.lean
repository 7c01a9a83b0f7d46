/-
  The reference's 'number'.
  The cursor's 'set', 'flag', 'flags'.
  The cursor's keys: 'put', 'none'.
  The cursor's 'put'.
-/
import Derived.Test.YtjamgkcmpcnfpaaGreatDoorS10
import Derived.Test.YtjamgkcmpcnfpaaGreatDoorS11
import Derived.Deep.AppendLies
import Derived.Deep.RegionLaw
set_option linter.unusedVariables false
set_option linter.unusedSimpArgs false

namespace Go.Proofs.YtjamgkcmpcnfpaaGreatDoor
open Go.RowKit

/-- A number is returned; the cursor moved. -/
def IntMoves (g : Nat) (S : Src) (kv : Value) (r : Nat) (bad : Bool) (w : World) (e : Ending) (w' : World) : Prop :=
  ∃ n : Int, e = .returned (.int .i64 n) ∧ Moves g S kv r bad w w'

/-- What holds ahead of a round. -/
def NumR (g : Nat) (S : Src) (kv : Value) (i a : Nat) (bad : Bool) (w : World) (x y : Value) (wr : World) : Prop :=
  ∃ (a' k : Nat) (n : Int), x = .int .i64 n ∧ y = .int .i64 k ∧ k ≤ 11 ∧ Cur g S wr i a' bad kv ∧ Kept g w wr ∧ a ≤ a'

set_option maxHeartbeats 16000000 in
set_option maxRecDepth 100000 in
theorem number24 (g : Nat) (S : Src) (i a : Nat) (bad : Bool) (kv : Value) (w : World) (h : Cur g S w i a bad kv) :
    Calls Tryz.prog 73 #[CC g] w (IntMoves g S kv (left S i a) bad w) := by
  have hi := h.hi
  have hn := h.hn
  have hsz := h.sz i hi
  have H := Lib.hid h
  clear h
  go_enter Tryz.func73, Tryz.ntmps73
  go_wp2_with fail
  go_loopw [3, 4] (fun x y wr => NumR g S kv i a bad w x y wr) (fun _ _ wr => 2001 - (intOf ((wr.cell? ⟨g, 2, none⟩).getD undef)).toNat)
  case atStart => exact ⟨a, 0, 0, rfl, rfl, by omega, H.out, Kept.refl _ _, Nat.le_refl _⟩
  case round =>
    obtain ⟨a', k, n, rfl, rfl, hk, hC, hK, haa⟩ := hrel
    have has := hC.ha
    have h0 := hC.c0
    have h1 := hC.c1
    have h2 := hC.c2
    have h3 := hC.c3
    have f2 := hC.f2
    have hs := hC.at_
    have HC := Lib.hid hC
    have HK := Lib.hid hK
    clear hC hK
    go_wp2_with fail
    refine wp_region_quiet_lit (by kernel_rfl) (by kernel_rfl) ?_
    cases bad
    · by_cases hlt : a' < (S.L i).size
      · by_cases x1 : 48 ≤ ((S.L i)[a'].toNat : Int)
        · have x1' : decide (48 ≤ ((S.L i)[a'].toNat : Int)) = true := by simp; omega
          by_cases x2 : ((S.L i)[a'].toNat : Int) ≤ 57
          · have x2' : decide (((S.L i)[a'].toNat : Int) ≤ 57) = true := by simp; omega
            by_cases x3 : k < 11
            · have x3' : decide ((k : Int) < 11) = true := by simp; omega
              repeat (go_big_quiet_step (fail))
              refine wpQuiet_nil ?_
              rintro w1 ⟨m, rfl⟩
              have wrapS := Lib.hid (show IntKind.i64.wrap ((a' : Int) + 1) = (a' : Int) + 1 from IntWalk.i64_in _ (by omega))
              go_wp2_with fail
              go_quiet (fail)
              go_wp2_with fail
              go_roundw
              case rel => exact ⟨a' + 1, k + 1, _, rfl, by go_num, by omega, (HC.out.drewN _).set2 hlt, (HK.out.drewN _).setg 2 _, by omega⟩
              case measure =>
                rw [World.cell?_setCell_same _ _ _ (show (World.drewN _ _).cell? _ = _ from h2), h2]
                simp [intOf]
                omega
            · have x3' : decide ((k : Int) < 11) = false := by simp; omega
              repeat (go_big_quiet_step (fail))
              refine wpQuiet_nil ?_
              rintro w1 ⟨m, rfl⟩
              have y1' : decide ((k : Int) < 1) = false := by simp; omega
              have y2' : decide ((10 : Int) < (k : Int)) = true := by simp; omega
              go_wp2_with fail
              refine (fail_any g S i a' false _ kv _ (HC.out.drewN _)).mono ?_
              rintro e w2 ⟨rfl, hC2, hK2⟩
              replace hC2 : Cur g S w2 i a' true kv := by simpa using hC2
              have j3 := hC2.c3
              have HC2 := Lib.hid hC2
              have HK2 := Lib.hid ((HK.out.drewN m).trans hK2)
              clear hC2 hK2 h0 h1 h2 h3 hs
              go_wp2_with fail
              go_ret
              exact ⟨_, rfl, i, a', _, HC2.out, HK2.out, left_le haa, fun h => by cases h⟩
          · have x2' : decide (((S.L i)[a'].toNat : Int) ≤ 57) = false := by simp; omega
            repeat (go_big_quiet_step (fail))
            refine wpQuiet_nil ?_
            rintro w1 ⟨m, rfl⟩
            by_cases y1 : k < 1
            · have y1' : decide ((k : Int) < 1) = true := by simp; omega
              go_wp2_with fail
              refine (fail_any g S i a' false _ kv _ (HC.out.drewN _)).mono ?_
              rintro e w2 ⟨rfl, hC2, hK2⟩
              replace hC2 : Cur g S w2 i a' true kv := by simpa using hC2
              have j3 := hC2.c3
              have HC2 := Lib.hid hC2
              have HK2 := Lib.hid ((HK.out.drewN m).trans hK2)
              clear hC2 hK2 h0 h1 h2 h3 hs
              go_wp2_with fail
              go_ret
              exact ⟨_, rfl, i, a', _, HC2.out, HK2.out, left_le haa, fun h => by cases h⟩
            · have y1' : decide ((k : Int) < 1) = false := by simp; omega
              by_cases y2 : 10 < k
              · have y2' : decide ((10 : Int) < (k : Int)) = true := by simp; omega
                go_wp2_with fail
                refine (fail_any g S i a' false _ kv _ (HC.out.drewN _)).mono ?_
                rintro e w2 ⟨rfl, hC2, hK2⟩
                replace hC2 : Cur g S w2 i a' true kv := by simpa using hC2
                have j3 := hC2.c3
                have HC2 := Lib.hid hC2
                have HK2 := Lib.hid ((HK.out.drewN m).trans hK2)
                clear hC2 hK2 h0 h1 h2 h3 hs
                go_wp2_with fail
                go_ret
                exact ⟨_, rfl, i, a', _, HC2.out, HK2.out, left_le haa, fun h => by cases h⟩
              · have y2' : decide ((10 : Int) < (k : Int)) = false := by simp; omega
                by_cases y3 : 4294967295 < n
                · have y3' : decide (4294967295 < n) = true := by simpa using y3
                  go_wp2_with fail
                  refine (fail_any g S i a' false _ kv _ (HC.out.drewN _)).mono ?_
                  rintro e w2 ⟨rfl, hC2, hK2⟩
                  replace hC2 : Cur g S w2 i a' true kv := by simpa using hC2
                  have j3 := hC2.c3
                  have HC2 := Lib.hid hC2
                  have HK2 := Lib.hid ((HK.out.drewN m).trans hK2)
                  clear hC2 hK2 h0 h1 h2 h3 hs
                  go_wp2_with fail
                  go_ret
                  exact ⟨_, rfl, i, a', _, HC2.out, HK2.out, left_le haa, fun h => by cases h⟩
                · have y3' : decide (4294967295 < n) = false := by simpa using y3
                  go_wp2_with fail
                  refine (fail_any g S i a' false _ kv _ (HC.out.drewN _)).mono ?_
                  rintro e w2 ⟨rfl, hC2, hK2⟩
                  replace hC2 : Cur g S w2 i a' false kv := by simpa using hC2
                  have j3 := hC2.c3
                  have HC2 := Lib.hid hC2
                  have HK2 := Lib.hid ((HK.out.drewN m).trans hK2)
                  clear hC2 hK2 h0 h1 h2 h3 hs
                  go_wp2_with fail
                  go_ret
                  exact ⟨_, rfl, i, a', _, HC2.out, HK2.out, left_le haa, fun h => by cases h⟩
        · have x1' : decide (48 ≤ ((S.L i)[a'].toNat : Int)) = false := by simp; omega
          repeat (go_big_quiet_step (fail))
          refine wpQuiet_nil ?_
          rintro w1 ⟨m, rfl⟩
          by_cases y1 : k < 1
          · have y1' : decide ((k : Int) < 1) = true := by simp; omega
            go_wp2_with fail
            refine (fail_any g S i a' false _ kv _ (HC.out.drewN _)).mono ?_
            rintro e w2 ⟨rfl, hC2, hK2⟩
            replace hC2 : Cur g S w2 i a' true kv := by simpa using hC2
            have j3 := hC2.c3
            have HC2 := Lib.hid hC2
            have HK2 := Lib.hid ((HK.out.drewN m).trans hK2)
            clear hC2 hK2 h0 h1 h2 h3 hs
            go_wp2_with fail
            go_ret
            exact ⟨_, rfl, i, a', _, HC2.out, HK2.out, left_le haa, fun h => by cases h⟩
          · have y1' : decide ((k : Int) < 1) = false := by simp; omega
            by_cases y2 : 10 < k
            · have y2' : decide ((10 : Int) < (k : Int)) = true := by simp; omega
              go_wp2_with fail
              refine (fail_any g S i a' false _ kv _ (HC.out.drewN _)).mono ?_
              rintro e w2 ⟨rfl, hC2, hK2⟩
              replace hC2 : Cur g S w2 i a' true kv := by simpa using hC2
              have j3 := hC2.c3
              have HC2 := Lib.hid hC2
              have HK2 := Lib.hid ((HK.out.drewN m).trans hK2)
              clear hC2 hK2 h0 h1 h2 h3 hs
              go_wp2_with fail
              go_ret
              exact ⟨_, rfl, i, a', _, HC2.out, HK2.out, left_le haa, fun h => by cases h⟩
            · have y2' : decide ((10 : Int) < (k : Int)) = false := by simp; omega
              by_cases y3 : 4294967295 < n
              · have y3' : decide (4294967295 < n) = true := by simpa using y3
                go_wp2_with fail
                refine (fail_any g S i a' false _ kv _ (HC.out.drewN _)).mono ?_
                rintro e w2 ⟨rfl, hC2, hK2⟩
                replace hC2 : Cur g S w2 i a' true kv := by simpa using hC2
                have j3 := hC2.c3
                have HC2 := Lib.hid hC2
                have HK2 := Lib.hid ((HK.out.drewN m).trans hK2)
                clear hC2 hK2 h0 h1 h2 h3 hs
                go_wp2_with fail
                go_ret
                exact ⟨_, rfl, i, a', _, HC2.out, HK2.out, left_le haa, fun h => by cases h⟩
              · have y3' : decide (4294967295 < n) = false := by simpa using y3
                go_wp2_with fail
                refine (fail_any g S i a' false _ kv _ (HC.out.drewN _)).mono ?_
                rintro e w2 ⟨rfl, hC2, hK2⟩
                replace hC2 : Cur g S w2 i a' false kv := by simpa using hC2
                have j3 := hC2.c3
                have HC2 := Lib.hid hC2
                have HK2 := Lib.hid ((HK.out.drewN m).trans hK2)
                clear hC2 hK2 h0 h1 h2 h3 hs
                go_wp2_with fail
                go_ret
                exact ⟨_, rfl, i, a', _, HC2.out, HK2.out, left_le haa, fun h => by cases h⟩
      · skip
        repeat (go_big_quiet_step (fail))
        refine wpQuiet_nil ?_
        rintro w1 ⟨m, rfl⟩
        by_cases y1 : k < 1
        · have y1' : decide ((k : Int) < 1) = true := by simp; omega
          go_wp2_with fail
          refine (fail_any g S i a' false _ kv _ (HC.out.drewN _)).mono ?_
          rintro e w2 ⟨rfl, hC2, hK2⟩
          replace hC2 : Cur g S w2 i a' true kv := by simpa using hC2
          have j3 := hC2.c3
          have HC2 := Lib.hid hC2
          have HK2 := Lib.hid ((HK.out.drewN m).trans hK2)
          clear hC2 hK2 h0 h1 h2 h3 hs
          go_wp2_with fail
          go_ret
          exact ⟨_, rfl, i, a', _, HC2.out, HK2.out, left_le haa, fun h => by cases h⟩
        · have y1' : decide ((k : Int) < 1) = false := by simp; omega
          by_cases y2 : 10 < k
          · have y2' : decide ((10 : Int) < (k : Int)) = true := by simp; omega
            go_wp2_with fail
            refine (fail_any g S i a' false _ kv _ (HC.out.drewN _)).mono ?_
            rintro e w2 ⟨rfl, hC2, hK2⟩
            replace hC2 : Cur g S w2 i a' true kv := by simpa using hC2
            have j3 := hC2.c3
            have HC2 := Lib.hid hC2
            have HK2 := Lib.hid ((HK.out.drewN m).trans hK2)
            clear hC2 hK2 h0 h1 h2 h3 hs
            go_wp2_with fail
            go_ret
            exact ⟨_, rfl, i, a', _, HC2.out, HK2.out, left_le haa, fun h => by cases h⟩
          · have y2' : decide ((10 : Int) < (k : Int)) = false := by simp; omega
            by_cases y3 : 4294967295 < n
            · have y3' : decide (4294967295 < n) = true := by simpa using y3
              go_wp2_with fail
              refine (fail_any g S i a' false _ kv _ (HC.out.drewN _)).mono ?_
              rintro e w2 ⟨rfl, hC2, hK2⟩
              replace hC2 : Cur g S w2 i a' true kv := by simpa using hC2
              have j3 := hC2.c3
              have HC2 := Lib.hid hC2
              have HK2 := Lib.hid ((HK.out.drewN m).trans hK2)
              clear hC2 hK2 h0 h1 h2 h3 hs
              go_wp2_with fail
              go_ret
              exact ⟨_, rfl, i, a', _, HC2.out, HK2.out, left_le haa, fun h => by cases h⟩
            · have y3' : decide (4294967295 < n) = false := by simpa using y3
              go_wp2_with fail
              refine (fail_any g S i a' false _ kv _ (HC.out.drewN _)).mono ?_
              rintro e w2 ⟨rfl, hC2, hK2⟩
              replace hC2 : Cur g S w2 i a' false kv := by simpa using hC2
              have j3 := hC2.c3
              have HC2 := Lib.hid hC2
              have HK2 := Lib.hid ((HK.out.drewN m).trans hK2)
              clear hC2 hK2 h0 h1 h2 h3 hs
              go_wp2_with fail
              go_ret
              exact ⟨_, rfl, i, a', _, HC2.out, HK2.out, left_le haa, fun h => by cases h⟩
    · skip
      repeat (go_big_quiet_step (fail))
      refine wpQuiet_nil ?_
      rintro w1 ⟨m, rfl⟩
      by_cases y1 : k < 1
      · have y1' : decide ((k : Int) < 1) = true := by simp; omega
        go_wp2_with fail
        refine (fail_any g S i a' true _ kv _ (HC.out.drewN _)).mono ?_
        rintro e w2 ⟨rfl, hC2, hK2⟩
        replace hC2 : Cur g S w2 i a' true kv := by simpa using hC2
        have j3 := hC2.c3
        have HC2 := Lib.hid hC2
        have HK2 := Lib.hid ((HK.out.drewN m).trans hK2)
        clear hC2 hK2 h0 h1 h2 h3 hs
        go_wp2_with fail
        go_ret
        exact ⟨_, rfl, i, a', _, HC2.out, HK2.out, left_le haa, fun _ => rfl⟩
      · have y1' : decide ((k : Int) < 1) = false := by simp; omega
        by_cases y2 : 10 < k
        · have y2' : decide ((10 : Int) < (k : Int)) = true := by simp; omega
          go_wp2_with fail
          refine (fail_any g S i a' true _ kv _ (HC.out.drewN _)).mono ?_
          rintro e w2 ⟨rfl, hC2, hK2⟩
          replace hC2 : Cur g S w2 i a' true kv := by simpa using hC2
          have j3 := hC2.c3
          have HC2 := Lib.hid hC2
          have HK2 := Lib.hid ((HK.out.drewN m).trans hK2)
          clear hC2 hK2 h0 h1 h2 h3 hs
          go_wp2_with fail
          go_ret
          exact ⟨_, rfl, i, a', _, HC2.out, HK2.out, left_le haa, fun _ => rfl⟩
        · have y2' : decide ((10 : Int) < (k : Int)) = false := by simp; omega
          by_cases y3 : 4294967295 < n
          · have y3' : decide (4294967295 < n) = true := by simpa using y3
            go_wp2_with fail
            refine (fail_any g S i a' true _ kv _ (HC.out.drewN _)).mono ?_
            rintro e w2 ⟨rfl, hC2, hK2⟩
            replace hC2 : Cur g S w2 i a' true kv := by simpa using hC2
            have j3 := hC2.c3
            have HC2 := Lib.hid hC2
            have HK2 := Lib.hid ((HK.out.drewN m).trans hK2)
            clear hC2 hK2 h0 h1 h2 h3 hs
            go_wp2_with fail
            go_ret
            exact ⟨_, rfl, i, a', _, HC2.out, HK2.out, left_le haa, fun _ => rfl⟩
          · have y3' : decide (4294967295 < n) = false := by simpa using y3
            go_wp2_with fail
            refine (fail_any g S i a' true _ kv _ (HC.out.drewN _)).mono ?_
            rintro e w2 ⟨rfl, hC2, hK2⟩
            replace hC2 : Cur g S w2 i a' true kv := by simpa using hC2
            have j3 := hC2.c3
            have HC2 := Lib.hid hC2
            have HK2 := Lib.hid ((HK.out.drewN m).trans hK2)
            clear hC2 hK2 h0 h1 h2 h3 hs
            go_wp2_with fail
            go_ret
            exact ⟨_, rfl, i, a', _, HC2.out, HK2.out, left_le haa, fun _ => rfl⟩

end Go.Proofs.YtjamgkcmpcnfpaaGreatDoor

namespace Go.Proofs.YtjamgkcmpcnfpaaGreatDoor
open Go.RowKit

/-- A set is returned; the cursor moved. -/
def SetMoves (g : Nat) (S : Src) (kv : Value) (r : Nat) (bad : Bool) (w : World) (e : Ending) (w' : World) : Prop :=
  ∃ (v : Value) (n : Nat), e = .returned v ∧ n ≤ 2001 ∧ Rowed w.heap.size 64 2 TwoInts v n w' ∧ Moves g S kv r bad w w'

/-- A row stands while the cursor's block alone changes. -/
theorem Rowed.keep {B : Nat} {e : TypeId} {sz : Nat} {Ok : List Value → Prop} {v : Value} {n g : Nat} {W W' : World} (h : Rowed B e sz Ok v n W) (hg : g < B) (hk : Kept g W W') : Rowed B e sz Ok v n W' :=
  h.kept fun k hk' => hk.block k (h.lt k hk').2 (by have := (h.lt k hk').1; omega)

set_option maxHeartbeats 2000000 in
theorem set24 (g : Nat) (S : Src) (i a : Nat) (bad : Bool) (kv : Value) (w : World) (h : Cur g S w i a bad kv) :
    Calls Tryz.prog 63 #[CC g] w (SetMoves g S kv (left S i a) bad w) := by
  have hI := Lib.hid (word24 g S i a bad kv ⟨#[42]⟩ w h (by decide))
  have hgl := h.lt
  clear h
  go_enter Tryz.func63, Tryz.ntmps63
  go_wp2_with fail
  refine hI.out.mono ?_
  rintro e w1 ⟨s, rfl, hs, i1, a1, bad1, hC1, hK1, hl1, hb1⟩
  have HC1 := Lib.hid hC1
  have HK1 := Lib.hid hK1
  have HB1 := Lib.hid hb1
  clear hC1 hK1 hb1
  go_wp2_with fail
  refine (Parse09 s w1 hs).mono ?_
  rintro e w2 ⟨v, n, m, rfl, hn, hR, hB⟩
  have HR := Lib.hid hR
  have HB := Lib.hid hB
  clear hR hB
  go_wp2_with fail
  refine (fail_any g S i1 a1 bad1 _ kv _ (HC1.out.step HB.out)).mono ?_
  rintro e w3 ⟨rfl, hC3, hK3⟩
  go_wp2_with fail
  go_ret
  exact ⟨v, n, rfl, hn, (HR.out.keep HC1.out.lt hK3).base HK1.out.size, i1, a1, _, hC3, (HK1.out.andBelow HB.out HK1.out.size).trans hK3, hl1, fun h => by rw [HB1.out h]; rfl⟩

set_option maxHeartbeats 2000000 in
theorem flag24 (g : Nat) (S : Src) (i a : Nat) (bad : Bool) (kv : Value) (w : World) (h : Cur g S w i a bad kv) :
    Calls Tryz.prog 105 #[CC g] w (IntMoves g S kv (left S i a) bad w) := by
  have hI := Lib.hid (word24 g S i a bad kv ⟨#[92]⟩ w h (by decide))
  clear h
  go_enter Tryz.func105, Tryz.ntmps105
  go_wp2_with fail
  refine hI.out.mono ?_
  rintro e w1 ⟨s, rfl, hs, i1, a1, bad1, hC1, hK1, hl1, hb1⟩
  have HC1 := Lib.hid hC1
  have HK1 := Lib.hid hK1
  have HB1 := Lib.hid hb1
  clear hC1 hK1 hb1
  go_wp2_with fail
  refine (One08 s w1 hs).mono ?_
  rintro e w2 ⟨v, m, rfl, hB⟩
  have HB := Lib.hid hB
  clear hB
  go_wp2_with fail
  refine (fail_any g S i1 a1 bad1 _ kv _ (HC1.out.step HB.out)).mono ?_
  rintro e w3 ⟨rfl, hC3, hK3⟩
  go_wp2_with fail
  go_ret
  exact ⟨v, rfl, i1, a1, _, hC3, (HK1.out.andBelow HB.out HK1.out.size).trans hK3, hl1, fun h => by rw [HB1.out h]; rfl⟩

/-- What holds ahead of a round of a list. -/
def ListR (g : Nat) (S : Src) (kv : Value) (r : Nat) (bad : Bool) (w : World) (x : Value) (wr : World) : Prop :=
  ∃ (n : Int) (i a : Nat) (bad' : Bool), x = .int .i64 n ∧ Cur g S wr i a bad' kv ∧ Kept g w wr ∧ left S i a ≤ r ∧ (bad = true → bad' = true)

/-- How much is left to read, off the cursor's cells; nothing, where something is wrong. -/
def togo (g : Nat) (S : Src) (w : World) : Nat :=
  match w.cell? ⟨g, 3, none⟩ with
  | some (.bool true) => 0
  | _ => left S (intOf ((w.cell? ⟨g, 1, none⟩).getD undef)).toNat (intOf ((w.cell? ⟨g, 2, none⟩).getD undef)).toNat + 1

theorem togo_of {g : Nat} {S : Src} {w : World} {i a : Nat} {bad : Bool} {kv : Value} (h : Cur g S w i a bad kv) : togo g S w = if bad = true then 0 else left S i a + 1 := by
  unfold togo
  rw [h.c1, h.c2, h.c3]
  cases bad <;> simp [intOf]

theorem togo_lt {g : Nat} {S : Src} {w w' : World} {i a i' a' : Nat} {bad' : Bool} {kv kv' : Value} (h : Cur g S w i a false kv) (h' : Cur g S w' i' a' bad' kv') (hl : bad' = true ∨ left S i' a' < left S i a) : togo g S w' < togo g S w := by
  rw [togo_of h, togo_of h']
  rcases hl with rfl | hl
  · simp
  · simp only [Bool.false_eq_true, if_false]
    split <;> omega

set_option maxHeartbeats 4000000 in
theorem flags24 (g : Nat) (S : Src) (i a : Nat) (bad : Bool) (kv : Value) (w : World) (h : Cur g S w i a bad kv) :
    Calls Tryz.prog 100 #[CC g] w (IntMoves g S kv (left S i a) bad w) := by
  have hI := Lib.hid (if1_any g S i a bad kv 41 w h)
  clear h
  go_enter Tryz.func100, Tryz.ntmps100
  go_wp2_with fail
  refine hI.out.mono ?_
  rintro e w1 ⟨v, rfl, ⟨i1, a1, bad1, hC1, hK1, hl1, hb1⟩, _⟩
  have HC1 := Lib.hid hC1
  have HK1 := Lib.hid hK1
  have HB1 := Lib.hid hb1
  clear hC1 hK1 hb1
  cases v
  · go_wp2_with fail
    go_loopw [3] (fun x wr => ListR g S kv (left S i a) bad w x wr) (fun _ wr => togo g S wr)
    case atStart => exact ⟨0, i1, a1, bad1, rfl, HC1.out, HK1.out, hl1, HB1.out⟩
    case round =>
      obtain ⟨n, i2, a2, bad2, rfl, hC2, hK2, hl2, hb2⟩ := hrel
      have c3 := hC2.c3
      have HC2 := Lib.hid hC2
      have HK2 := Lib.hid hK2
      have HB2 := Lib.hid hb2
      clear hC2 hK2 hb2
      cases bad2
      · go_wp2_with fail
        refine (flag24 g S i2 a2 false kv wr HC2.out).mono ?_
        rintro e w3 ⟨m, rfl, i3, a3, bad3, hC3, hK3, hl3, hb3⟩
        have HC3 := Lib.hid hC3
        have HK3 := Lib.hid (HK2.out.trans hK3)
        clear hC3 hK3 hb3
        go_wp2_with fail
        refine (if1_any g S i3 a3 bad3 kv 41 w3 HC3.out).mono ?_
        rintro e w4 ⟨v4, rfl, ⟨i4, a4, bad4, hC4, hK4, hl4, hb4⟩, _⟩
        have HC4 := Lib.hid hC4
        have HK4 := Lib.hid (HK3.out.trans hK4)
        clear hC4 hK4 hb4
        cases v4
        · go_wp2_with fail
          refine (eat_any g S i4 a4 bad4 kv 32 w4 HC4.out).mono ?_
          rintro e w5 ⟨rfl, i5, a5, bad5, hC5, hK5, hl5, hlt5, hb5⟩
          have HC5 := Lib.hid hC5
          have HK5 := Lib.hid (HK4.out.trans hK5)
          clear hC5 hK5 hb5
          go_wp2_with fail
          go_roundw
          case rel => exact ⟨_, i5, a5, bad5, rfl, HC5.out, HK5.out, by omega, fun h => absurd (HB2.out h) (by decide)⟩
          case measure => exact togo_lt HC2.out HC5.out (hlt5.imp id (by omega))
        · go_wp2_with fail
          go_ret
          exact ⟨_, rfl, i4, a4, bad4, HC4.out, HK4.out, by omega, fun h => absurd (HB2.out h) (by decide)⟩
      · go_wp2_with fail
        go_ret
        exact ⟨_, rfl, i2, a2, true, HC2.out, HK2.out, hl2, fun _ => rfl⟩
  · go_wp2_with fail
    go_ret
    exact ⟨_, rfl, i1, a1, bad1, HC1.out, HK1.out, hl1, HB1.out⟩

end Go.Proofs.YtjamgkcmpcnfpaaGreatDoor

namespace Go.Proofs.YtjamgkcmpcnfpaaGreatDoor
open Go.RowKit

/-- All that was there stands, but for the cursor's block, and blocks of keys behind it. -/
structure KKept (g : Nat) (w w' : World) : Prop where
  os : w'.os = w.os
  tape : w'.tape = w.tape
  output : w'.output = w.output
  size : w.heap.size ≤ w'.heap.size
  block : ∀ k, k < w.heap.size → k ≠ g → (k < g ∨ ∀ cs fr, w.heap[k]? ≠ some (.cells cs 77 fr)) → w'.heap[k]? = w.heap[k]?

theorem KKept.refl (g : Nat) (w : World) : KKept g w w := ⟨rfl, rfl, rfl, Nat.le_refl _, fun _ _ _ _ => rfl⟩

theorem Kept.kk {g : Nat} {w w' : World} (h : Kept g w w') : KKept g w w' := ⟨h.os, h.tape, h.output, h.size, fun k hk hg _ => h.block k hk hg⟩

theorem KKept.trans {g : Nat} {a b c : World} (h : KKept g a b) (k : KKept g b c) : KKept g a c :=
  ⟨k.os.trans h.os, k.tape.trans h.tape, k.output.trans h.output, Nat.le_trans h.size k.size, fun i hi hg ht => by
    have e := h.block i hi hg ht
    exact (k.block i (Nat.lt_of_lt_of_le hi h.size) hg (ht.imp id fun ht cs fr => by rw [e]; exact ht cs fr)).trans e⟩

/-- A key's cells. -/
def KeyOk (g : Nat) (W : World) (x : List Value) : Prop :=
  ∃ (op : Int) (nm tx : ByteArray) (n : Int) (sv : Value) (a b : Int) (m : Nat), x = [.int .i64 op, .string nm, .string tx, .int .i64 n, sv, .int .i64 a, .int .i64 b] ∧ m ≤ 2001 ∧ Rowed (g + 1) 64 2 TwoInts sv m W

/-- The keys so far. -/
def Keys (g : Nat) (kv : Value) (W : World) : Prop := ∃ n, n ≤ 60 ∧ Rowed (g + 1) 77 7 (KeyOk g W) kv n W

/-- A row that is not one of keys stands. -/
theorem Rowed.kk {B g : Nat} {e : TypeId} {sz : Nat} {Ok : List Value → Prop} {v : Value} {n : Nat} {W W' : World} (h : Rowed B e sz Ok v n W) (he : e ≠ 77) (hg : g < B) (hk : KKept g W W') : Rowed B e sz Ok v n W' := by
  obtain ⟨els, h1, h2, h3, h4⟩ := h
  refine ⟨els, h1, h2, h3, ?_⟩
  rcases h4 with h4 | ⟨b, cap, cur, rfl, hb, hh, r⟩
  · exact .inl h4
  · exact .inr ⟨b, cap, cur, rfl, hb, (hk.block b (Array.getElem?_eq_some_iff.1 hh).1 (by omega) (.inr fun cs fr e2 => by rw [hh] at e2; injection e2 with e2; injection e2 with _ e2; exact he e2)).trans hh, r⟩

theorem KeyOk.kk {g : Nat} {W W' : World} {x : List Value} (h : KeyOk g W x) (hk : KKept g W W') : KeyOk g W' x := by
  obtain ⟨op, nm, tx, n, sv, a, b, m, rfl, hm, hR⟩ := h
  exact ⟨op, nm, tx, n, sv, a, b, m, rfl, hm, hR.kk (by decide) (by omega) hk⟩

/-- The keys stand while the cursor's block alone changes. -/
theorem Keys.keep {g : Nat} {kv : Value} {W W' : World} (h : Keys g kv W) (hk : Kept g W W') : Keys g kv W' := by
  obtain ⟨n, hn, hR⟩ := h
  exact ⟨n, hn, (hR.mono fun x _ hx => hx.kk hk.kk).keep (by omega) hk⟩

/-- What a call that may put keys leaves. -/
def KMoves (g : Nat) (S : Src) (r : Nat) (bad : Bool) (w w' : World) : Prop :=
  ∃ i a bad' kv', Cur g S w' i a bad' kv' ∧ Keys g kv' w' ∧ KKept g w w' ∧ left S i a ≤ r ∧ (bad = true → bad' = true)

theorem Moves.kk {g : Nat} {S : Src} {kv : Value} {r : Nat} {bad : Bool} {w w' : World} (h : Moves g S kv r bad w w') (hk : Keys g kv w) : KMoves g S r bad w w' := by
  obtain ⟨i, a, bad', hC, hK, hl, hb⟩ := h
  exact ⟨i, a, bad', kv, hC, hk.keep hK, hK.kk, hl, hb⟩

theorem info77 : (Tryz.prog.info? 77).map (fun i => (i.zero, i.size, i.bytes)) = some (some (.agg #[.int .i64 0, .string ⟨#[]⟩, .string ⟨#[]⟩, .int .i64 0, .slice none 0 0, .int .i64 0, .int .i64 0]), 7, 88) := by kernel_rfl

/-- An element is appended, as a step of a region that draws. -/
theorem step_append_row {ops : Array Oper} {o : Oper} {a : Act} {w : World} {K : Act → World → Prop} {Q : Exit → Act → World → Prop} {E : Prop} (hgd : o.guard = none) (s x : Operand) (t : TypeId)
    (ho : o.op = .call { callee := .builtin .append, args := #[s, x], argTypes := #[t, t] })
    (base : Nat) (e : TypeId) (i : TypeInfo) (z : Value) (size bytes : Nat) (ht : Tryz.prog.underlying t = some (.slice e)) (hi : Tryz.prog.info? e = some i) (hz : i.zero = some z)
    (hsize : i.size = size) (hby : i.bytes = bytes) (hzs : z.cells.size = size) (hsz : 0 < size)
    (v : Value) (n : Nat) (Ok : List Value → Prop) (hs : a.eval s = v) (hrow : Rowed base e size Ok v n w)
    (gx : Nat) (news : List Value) (te : TypeId) (fr : Nat × Nat) (hx : a.eval x = .slice (some ⟨gx, 0, none⟩) 1 1) (hcell : w.heap[gx]? = some (.cells news.toArray te fr)) (hl : news.length = size) (hok : Ok news) (h1 : ∀ u ∈ news, u.oneCell' = true)
    (hn : n ≤ 100000) (hb1 : bytes ≤ 1000) (hbase : base ≤ w.heap.size)
    (h : ∀ g cap w', Rowed base e size Ok (.slice (some ⟨g, 0, none⟩) (n + 1) cap) (n + 1) w' → w.grownBy w' v.ownBlock → (v.ownBlock = some g ∨ g = w.heap.size) → K (a.put o.dst (.slice (some ⟨g, 0, none⟩) (n + 1) cap)) w') :
    if Region.wanted o (yielded ops a.tmps) = true then Oper.wp Tryz.prog o a w K Q else E := by
  obtain ⟨els, e1, e2, e3⟩ := hrow
  refine step_append_lies (w := w) hgd s x t ho base e i z size bytes ht hi hz hsize hby hzs hsz v n els.flatten hs e3 ⟨gx, 0, none⟩ 1 1 news hx (by rw [hl, Nat.one_mul]) (fun j u hj => ?_) h1 (by omega) (by unfold maxLen; omega) ?_ hbase _ rfl fun g cap w' h2 h3 h4 _ => h g cap w' ?_ h3 h4
  · have : (⟨gx, 0, none⟩ : Addr).add j = ⟨gx, j, none⟩ := by unfold Addr.add; split <;> simp_all
    rw [this]
    unfold World.cell?
    rw [hcell]
    simpa using hj
  · have := Nat.mul_le_mul (show n + 1 ≤ 100001 by omega) hb1
    omega
  · exact ⟨els ++ [news], by simp [e1], fun y hy => by rcases List.mem_append.1 hy with hy | hy; exact e2 y hy; (rw [List.mem_singleton.1 hy]; exact ⟨hl, hok⟩), by simpa using h2⟩

end Go.Proofs.YtjamgkcmpcnfpaaGreatDoor

namespace Go.Proofs.YtjamgkcmpcnfpaaGreatDoor
open Go.RowKit

/-- A place is returned; the cursor moved, and may have a key more. -/
def KInt (g : Nat) (S : Src) (r : Nat) (bad : Bool) (w : World) (e : Ending) (w' : World) : Prop := ∃ n : Int, e = .returned (.int .i64 n) ∧ KMoves g S r bad w w'

/-- A key's cells, in order. -/
abbrev keyC (op : Int) (nm tx : ByteArray) (n : Int) (sv : Value) (x y : Int) : Array Value := #[.int .i64 op, .string nm, .string tx, .int .i64 n, sv, .int .i64 x, .int .i64 y]

theorem Rowed.type_ {B : Nat} {e : TypeId} {sz : Nat} {Ok : List Value → Prop} {v : Value} {n k : Nat} {W : World} (h : Rowed B e sz Ok v n W) (hv : v.ownBlock = some k) : ∃ cs fr, W.heap[k]? = some (.cells cs e fr) := by
  obtain ⟨els, h1, h2, h3, h4⟩ := h
  rcases h4 with ⟨rfl, _⟩ | ⟨b, cap, cur, rfl, hb, hh, r⟩
  · cases hv
  · simp only [Value.ownBlock, Option.some.injEq] at hv
    subst hv
    exact ⟨_, _, hh⟩

/-- What an append to the keys, then the store of the row, leaves. -/
theorem put_done {g : Nat} {S : Src} {w2 w3 : World} {i a k : Nat} {kv v' : Value} {o : Obj} (hC : Cur g S w2 i a false kv) (hsg : S.b < g) (hR : Rowed (g + 1) 77 7 (KeyOk g w2) kv k w2) (hk : k < 60)
    (hR3 : Rowed (g + 1) 77 7 (KeyOk g w2) v' (k + 1) w3) (hgr : ((w2.alloc o).drew).grownBy w3 kv.ownBlock) :
    Cur g S w3 i a false kv ∧ Cur g S (w3.setCell ⟨g, 4, none⟩ v') i a false v' ∧ Keys g v' (w3.setCell ⟨g, 4, none⟩ v') ∧ KKept g w2 (w3.setCell ⟨g, 4, none⟩ v') := by
  have hb : ∀ j, j < w2.heap.size → some j ≠ kv.ownBlock → w3.heap[j]? = w2.heap[j]? := fun j hj hn =>
    (hgr.block j (by show j < (w2.alloc o).heap.size; rw [World.size_alloc]; omega) hn).trans (Below.heap_alloc _ _ _ hj)
  have hlow : ∀ j, j ≤ g → some j ≠ kv.ownBlock := fun j hj e => by have := (hR.lt j e.symm).1; omega
  have hC3 : Cur g S w3 i a false kv := hC.of_blocks (hb g hC.lt (hlow g (Nat.le_refl _))) (hb S.b hC.slt (hlow _ (by omega)))
  have hkk : KKept g w2 (w3.setCell ⟨g, 4, none⟩ v') := by
    refine ⟨hgr.os, hgr.tape, hgr.output, ?_, fun j hj hg ht => ?_⟩
    · have := hgr.size
      have e1 : ((w2.alloc o).drew).heap.size = w2.heap.size + 1 := by show (w2.alloc o).heap.size = _; simp
      have e2 : (w3.setCell ⟨g, 4, none⟩ v').heap.size = w3.heap.size := by simp [World.setCell]
      omega
    · refine (Below.heap_setCell w3 ⟨g, 4, none⟩ v' j hg).trans (hb j hj fun e => ?_)
      obtain ⟨cs, fr, hh⟩ := hR.type_ e.symm
      rcases ht with ht | ht
      · exact hlow j (by omega) e
      · exact ht cs fr hh
  exact ⟨hC3, hC3.set4 _, ⟨k + 1, by omega, (hR3.mono fun x _ hx => hx.kk hkk).keep (by omega) ((Kept.refl g w3).setg 4 _)⟩, hkk⟩

set_option maxHeartbeats 8000000 in
set_option maxRecDepth 100000 in
theorem put24 (g : Nat) (S : Src) (i a : Nat) (bad : Bool) (kv : Value) (w : World) (h : Cur g S w i a bad kv) (hsg : S.b < g) (hk : Keys g kv w)
    (op : Int) (nm tx : ByteArray) (n : Int) (sv : Value) (x y : Int) (m : Nat) (hm : m ≤ 2001) (hsv : Rowed (g + 1) 64 2 TwoInts sv m w) :
    Calls Tryz.prog 134 #[CC g, .agg (keyC op nm tx n sv x y)] w (KInt g S (left S i a) bad w) := by
  obtain ⟨i0, hi, hz0, hz1, hz2⟩ := info_parts info77
  obtain ⟨k, hk60, hR⟩ := hk
  obtain ⟨asv, nsv, csv, rfl⟩ : ∃ A N C, sv = .slice A N C := by
    rcases hsv.slice with ⟨rfl, _⟩ | ⟨b, c, rfl⟩
    · exact ⟨_, _, _, rfl⟩
    · exact ⟨_, _, _, rfl⟩
  obtain ⟨ak, ck, rfl⟩ : ∃ A C, kv = .slice A k C := by
    rcases hR.slice with ⟨rfl, rfl⟩ | ⟨b, c, rfl⟩
    · exact ⟨_, _, rfl⟩
    · exact ⟨_, _, rfl⟩
  have HC := Lib.hid (h.alloc (.cells (keyC op nm tx n (.slice asv nsv csv) x y) 77))
  have hgl := h.lt
  have HR := Lib.hid hR
  have HSV := Lib.hid hsv
  have hb0 := (Below.refl _ w).alloc (Nat.le_refl _) (.cells (keyC op nm tx n (.slice asv nsv csv) x y) 77)
  have hX := (MapKept.heap_alloc w (.cells (keyC op nm tx n (.slice asv nsv csv) x y) 77)).1
  have c4 := HC.out.c4
  have HX := Lib.hid hX
  have HB0 := Lib.hid hb0
  clear h hR hsv hb0 hX
  by_cases h60 : 60 ≤ k
  · have h60' : decide ((60 : Int) ≤ (k : Int)) = true := by simp; omega
    go_enter Tryz.func134, Tryz.ntmps134
    go_wp2_with fail
    refine (fail_any g S i a bad _ _ _ HC.out).mono ?_
    rintro e w2 ⟨rfl, hC2, hK2⟩
    rw [Bool.or_true] at hC2
    have c3 := hC2.c3
    have HC2 := Lib.hid hC2
    have HK2 := Lib.hid (((Kept.refl g w).alloc (.cells (keyC op nm tx n (.slice asv nsv csv) x y) 77)).trans hK2)
    clear hC2 hK2 c4
    go_wp2_with fail
    go_ret
    exact ⟨_, rfl, i, a, true, _, HC2.out, Keys.keep ⟨k, hk60, HR.out⟩ HK2.out, HK2.out.kk, Nat.le_refl _, fun _ => rfl⟩
  · have h60' : decide ((60 : Int) ≤ (k : Int)) = false := by simp; omega
    go_enter Tryz.func134, Tryz.ntmps134
    go_wp2_with fail
    refine (fail_any g S i a bad _ _ _ HC.out).mono ?_
    rintro e w2 ⟨rfl, hC2, hK2⟩
    rw [Bool.or_false] at hC2
    have c3 := hC2.c3
    have d4 := hC2.c4
    have e4 := hC2.f4
    have hX2 := (hK2.block w.heap.size (by simp) (by omega)).trans HX.out
    have HC2 := Lib.hid hC2
    have HK2 := Lib.hid (((Kept.refl g w).alloc (.cells (keyC op nm tx n (.slice asv nsv csv) x y) 77)).trans hK2)
    clear hC2 hK2 c4
    cases bad
    · have z0 := cell_hp hX2 (j := 0) (v := .int .i64 op) rfl
      have z1 := cell_hp hX2 (j := 1) (v := .string nm) rfl
      have z2 := cell_hp hX2 (j := 2) (v := .string tx) rfl
      have z3 := cell_hp hX2 (j := 3) (v := .int .i64 n) rfl
      have z4 := cell_hp hX2 (j := 4) (v := .slice asv nsv csv) rfl
      have z5 := cell_hp hX2 (j := 5) (v := .int .i64 x) rfl
      have z6 := cell_hp hX2 (j := 6) (v := .int .i64 y) rfl
      have hsz2 : w.heap.size < w2.heap.size := (Array.getElem?_eq_some_iff.1 hX2).1
      have HX2 := Lib.hid hX2
      have HR2 := Lib.hid ((HR.out.mono fun x _ hx => hx.kk HK2.out.kk).keep (by omega) HK2.out)
      have HSV2 := Lib.hid (HSV.out.keep (by omega) HK2.out)
      clear hX2
      go_wp2_with fail
      have HRA := Lib.hid (HR2.out.step (((Below.refl _ w2).alloc (Nat.le_refl _) (.cells (keyC op nm tx n (.slice asv nsv csv) x y) 77)).drew))
      have hbase : g + 1 ≤ ((w2.alloc (.cells (keyC op nm tx n (.slice asv nsv csv) x y) 77)).drew).heap.size := by show _ ≤ (w2.alloc _).heap.size; simp; omega
      have d4a := (HC2.out.alloc (.cells (keyC op nm tx n (.slice asv nsv csv) x y) 77)).c4
      have d4b := ((HC2.out.alloc (.cells (keyC op nm tx n (.slice asv nsv csv) x y) 77)).drew).c4
      go_region_law (refine step_append_row rfl _ _ 29 rfl (g + 1) 77 i0 (.agg #[.int .i64 0, .string ⟨#[]⟩, .string ⟨#[]⟩, .int .i64 0, .slice none 0 0, .int .i64 0, .int .i64 0]) 7 88 Tryz.underlying29 hi hz0 hz1 hz2 rfl (by decide) _ k (KeyOk g w2) rfl HRA.out w2.heap.size (keyC op nm tx n (.slice asv nsv csv) x y).toList 77 (0, 0) rfl (MapKept.heap_alloc w2 _).1 rfl ⟨op, nm, tx, n, _, x, y, m, rfl, hm, HSV2.out⟩ (by simp [Value.oneCell']) (by omega) (by decide) hbase ?_; intro gb cap w3 hR3 hgr _; have hPD := put_done HC2.out hsg HR2.out (by omega) hR3 hgr; have d5 := hPD.1.c4; have e5 := hPD.1.f4; have HPD := Lib.hid hPD; clear hPD hR3 hgr)
      all_goals go_wp2_with fail
      all_goals
        obtain ⟨_, hCf, hKf, hkf⟩ := HPD.out
        go_ret
        exact ⟨_, rfl, i, a, false, _, hCf, hKf, (HK2.out.kk).trans hkf, Nat.le_refl _, fun h => by cases h⟩
    · go_wp2_with fail
      go_ret
      exact ⟨_, rfl, i, a, true, _, HC2.out, Keys.keep ⟨k, hk60, HR.out⟩ HK2.out, HK2.out.kk, Nat.le_refl _, fun _ => rfl⟩

end Go.Proofs.YtjamgkcmpcnfpaaGreatDoor

/-
  The reference's 'quoted'.
-/
import Derived.Test.YtjamgkcmpcnfpaaGreatDoorS08
import Derived.Laws.BytesArg
set_option linter.unusedVariables false
set_option linter.unusedSimpArgs false

namespace Go.Proofs.YtjamgkcmpcnfpaaGreatDoor
open Go.RowKit

/-- A byte's text. -/
theorem one_byte (w : World) (x : Int) : (convert 35 9 (.slice (some ⟨w.heap.size, 0, none⟩) 1 1)).run Tryz.prog (w.alloc (.cells #[.int .u8 x] 5)) = .ok (.string (strOfNums [x])) (w.alloc (.cells #[.int .u8 x] 5)) :=
  run_convert_bytes_arg (P := Tryz.prog) (w.alloc (.cells #[.int .u8 x] 5)) 35 5 Tryz.underlying35 Tryz.underlying5 w.heap.size 0 1 1 [x] rfl (fun i hi => by
    obtain rfl : i = 0 := by omega
    exact cell_hp (MapKept.heap_alloc w _).1 rfl) 9 Tryz.underlying9

/-- What holds ahead of a round. -/
def QuotedR (g : Nat) (S : Src) (kv : Value) (i a : Nat) (bad : Bool) (w : World) (s : Value) (wr : World) : Prop :=
  ∃ (a' : Nat) (t : ByteArray) (bad' : Bool), s = .string t ∧ Cur g S wr i a' bad' kv ∧ Kept g w wr ∧ a ≤ a' ∧ t.size ≤ a' ∧ (bad = true → bad' = true)

theorem one_size (x : Int) : (strOfNums [x]).size = 1 := rfl

set_option maxHeartbeats 16000000 in
set_option maxRecDepth 100000 in
theorem quoted24 (g : Nat) (S : Src) (i a : Nat) (bad : Bool) (kv : Value) (w : World) (h : Cur g S w i a bad kv) :
    Calls Tryz.prog 97 #[CC g] w (StrMoves g S kv (left S i a) bad w) := by
  have hi := h.hi
  have hn := h.hn
  have hsz := h.sz i hi
  have H := Lib.hid h
  have hone := one_byte
  have hosz := one_size
  clear h
  go_enter Tryz.func97, Tryz.ntmps97
  go_wp2_with fail
  go_loopw [3] (fun s wr => QuotedR g S kv i a bad w s wr) (fun _ wr => 2001 - (intOf ((wr.cell? ⟨g, 2, none⟩).getD undef)).toNat)
  case atStart => exact ⟨a, ⟨#[]⟩, bad, rfl, H.out, Kept.refl _ _, Nat.le_refl _, Nat.zero_le _, id⟩
  case round =>
    obtain ⟨a', t, bad', rfl, hC, hK, haa, hts, hB⟩ := hrel
    have HB := Lib.hid hB
    clear hB
    have has := hC.ha
    have h0 := hC.c0
    have h1 := hC.c1
    have h2 := hC.c2
    have h3 := hC.c3
    have f2 := hC.f2
    have f3 := hC.f3
    have hs := hC.at_
    have HC := Lib.hid hC
    have HK := Lib.hid hK
    have HM : Hid (∀ (W : World) (v : Value), (W.setCell ⟨g, 2, none⟩ v).cell? ⟨g, 2, none⟩ = some v ∨ True) := Lib.hid fun _ _ => .inr trivial
    clear hC hK HM
    cases bad'
    · by_cases hlt : a' < (S.L i).size
      · have wrapS := Lib.hid (show IntKind.i64.wrap ((a' : Int) + 1) = (a' : Int) + 1 from IntWalk.i64_in _ (by omega))
        go_wp2_with fail
        go_quiet (fail)
        go_wp2_with fail
        go_quiet (fail)
        by_cases h34 : ((S.L i)[a'].toNat : Int) = 34
        · have h34' : (((S.L i)[a'].toNat : Int) == 34) = true := by simpa using h34
          go_wp2_with fail
          go_ret
          exact ⟨_, rfl, by omega, i, a' + 1, _, (HC.out.drewN _).set2 hlt, (HK.out.drewN _).setg 2 _, left_le (by omega), HB.out⟩
        · have h34' : (((S.L i)[a'].toNat : Int) == 34) = false := by simpa using h34
          by_cases h92 : ((S.L i)[a'].toNat : Int) = 92
          · have h92' : (((S.L i)[a'].toNat : Int) == 92) = true := by simpa using h92
            go_wp2_with fail
            refine gen_wp (Q := fun W => Cur g S W i (a' + 1) false kv ∧ Kept g w W) ⟨(HC.out.drewN _).set2 hlt, (HK.out.drewN _).setg 2 _⟩ ?_
            rintro W1 ⟨hC1, hK1⟩
            obtain ⟨a1, ha1⟩ : ∃ a1, a1 = a' + 1 := ⟨_, rfl⟩
            rw [← ha1] at hC1
            have l1 : a1 ≤ a' + 1 := by omega
            have l2 : a' + 1 ≤ a1 := by omega
            clear ha1
            have i0 := hC1.c0
            have i1 := hC1.c1
            have i2 := hC1.c2
            have is := hC1.at_
            have has1 := hC1.ha
            have HC1 := Lib.hid hC1
            have HK1 := Lib.hid hK1
            clear hC1 hK1 h0 h1 h3 f2 f3 hs h34 h34' h92 h92' HC HK
            refine wp_region_quiet_tail 53 (by kernel_rfl) (by kernel_rfl) ?_
            simp only [List.take_succ_cons, List.take_zero, List.drop_succ_cons, List.drop_zero]
            by_cases hl1 : a1 < (S.L i).size
            · have z1 : decide ((S.L i).size ≤ a1) = false := by simp; omega
              have z2 : decide (((S.L i).size : Int) ≤ (a1 : Int)) = false := by simp; omega
              by_cases e34 : ((S.L i)[a1].toNat : Int) = 34
              · have e34' : (((S.L i)[a1].toNat : Int) != 34) = false := by simp [e34]
                repeat (go_big_quiet_step (fail))
                refine wpQuiet_nil ?_
                rintro w1 ⟨m, rfl⟩
                go_wp2_with fail
                refine (fail_any g S i a1 false _ kv _ (HC1.out.drewN _)).mono ?_
                rintro e w2 ⟨rfl, hC2, hK2⟩
                replace hC2 : Cur g S w2 i a1 false kv := hC2
                have i0 := hC2.c0
                have i1 := hC2.c1
                have i2 := hC2.c2
                have i3 := hC2.c3
                have j2 := hC2.f2
                have is := hC2.at_
                have HCa := Lib.hid hC2
                have HKa := Lib.hid ((HK1.out.drewN m).trans hK2)
                clear hC2 hK2
                have n0 : (((S.L i)[a1].toNat : Int) == 0) = false := by simp; omega
                have n1 : decide (127 < ((S.L i)[a1].toNat : Int)) = false := by simp; omega
                have n2 : (((S.L i)[a1].toNat : Int) == 13) = false := by simp; omega
                have n3 : (((S.L i)[a1].toNat : Int) == 10) = false := by simp; omega
                go_wp2_with fail
                go_quiet (fail)
                go_wp2_with fail
                refine (fail_any g S i (a1 + 1) false _ kv _ ((HCa.out.drewN _).set2 hl1)).mono ?_
                rintro e w2 ⟨rfl, hC2, hK2⟩
                have HC2 := Lib.hid hC2
                have HK2 := Lib.hid (((HKa.out.drewN _).setg 2 _).trans hK2)
                clear hC2 hK2
                go_wp2_with fail
                go_roundw
                case rel => exact ⟨(a1 + 1), _, _, rfl, HC2.out.alloc _, HK2.out.alloc _, by omega, by simp [ByteArray.size_append, one_size]; omega, fun h => absurd (HB.out h) (by decide)⟩
                case measure =>
                  rw [(HC2.out.alloc _).c2, h2]
                  simp [intOf]
                  omega
              · have e34' : (((S.L i)[a1].toNat : Int) != 34) = true := by simpa using e34
                by_cases e92 : ((S.L i)[a1].toNat : Int) = 92
                · have e92' : (((S.L i)[a1].toNat : Int) != 92) = false := by simp [e92]
                  repeat (go_big_quiet_step (fail))
                  refine wpQuiet_nil ?_
                  rintro w1 ⟨m, rfl⟩
                  go_wp2_with fail
                  refine (fail_any g S i a1 false _ kv _ (HC1.out.drewN _)).mono ?_
                  rintro e w2 ⟨rfl, hC2, hK2⟩
                  replace hC2 : Cur g S w2 i a1 false kv := hC2
                  have i0 := hC2.c0
                  have i1 := hC2.c1
                  have i2 := hC2.c2
                  have i3 := hC2.c3
                  have j2 := hC2.f2
                  have is := hC2.at_
                  have HCa := Lib.hid hC2
                  have HKa := Lib.hid ((HK1.out.drewN m).trans hK2)
                  clear hC2 hK2
                  have n0 : (((S.L i)[a1].toNat : Int) == 0) = false := by simp; omega
                  have n1 : decide (127 < ((S.L i)[a1].toNat : Int)) = false := by simp; omega
                  have n2 : (((S.L i)[a1].toNat : Int) == 13) = false := by simp; omega
                  have n3 : (((S.L i)[a1].toNat : Int) == 10) = false := by simp; omega
                  go_wp2_with fail
                  go_quiet (fail)
                  go_wp2_with fail
                  refine (fail_any g S i (a1 + 1) false _ kv _ ((HCa.out.drewN _).set2 hl1)).mono ?_
                  rintro e w2 ⟨rfl, hC2, hK2⟩
                  have HC2 := Lib.hid hC2
                  have HK2 := Lib.hid (((HKa.out.drewN _).setg 2 _).trans hK2)
                  clear hC2 hK2
                  go_wp2_with fail
                  go_roundw
                  case rel => exact ⟨(a1 + 1), _, _, rfl, HC2.out.alloc _, HK2.out.alloc _, by omega, by simp [ByteArray.size_append, one_size]; omega, fun h => absurd (HB.out h) (by decide)⟩
                  case measure =>
                    rw [(HC2.out.alloc _).c2, h2]
                    simp [intOf]
                    omega
                · have e92' : (((S.L i)[a1].toNat : Int) != 92) = true := by simpa using e92
                  repeat (go_big_quiet_step (fail))
                  refine wpQuiet_nil ?_
                  rintro w1 ⟨m, rfl⟩
                  go_wp2_with fail
                  refine (fail_any g S i a1 false _ kv _ (HC1.out.drewN _)).mono ?_
                  rintro e w2 ⟨rfl, hC2, hK2⟩
                  replace hC2 : Cur g S w2 i a1 true kv := by simpa using hC2
                  have j3 := hC2.c3
                  have HC2 := Lib.hid hC2
                  have HK2 := Lib.hid ((HK1.out.drewN m).trans hK2)
                  clear hC2 hK2 i0 i1 i2 is
                  go_wp2_with fail
                  go_ret
                  exact ⟨_, rfl, by decide, i, a1, true, HC2.out, HK2.out, left_le (by omega), fun _ => rfl⟩
            · have z1 : decide ((S.L i).size ≤ a1) = true := by simp; omega
              have z2 : decide (((S.L i).size : Int) ≤ (a1 : Int)) = true := by simp; omega
              repeat (go_big_quiet_step (fail))
              refine wpQuiet_nil ?_
              rintro w1 ⟨m, rfl⟩
              go_wp2_with fail
              refine (fail_any g S i a1 false _ kv _ (HC1.out.drewN _)).mono ?_
              rintro e w2 ⟨rfl, hC2, hK2⟩
              replace hC2 : Cur g S w2 i a1 true kv := by simpa using hC2
              have j3 := hC2.c3
              have HC2 := Lib.hid hC2
              have HK2 := Lib.hid ((HK1.out.drewN m).trans hK2)
              clear hC2 hK2 i0 i1 i2 is
              go_wp2_with fail
              go_ret
              exact ⟨_, rfl, by decide, i, a1, true, HC2.out, HK2.out, left_le (by omega), fun _ => rfl⟩
          · have h92' : (((S.L i)[a'].toNat : Int) == 92) = false := by simpa using h92
            by_cases q0 : ((S.L i)[a'].toNat : Int) = 0
            · have n0 : (((S.L i)[a'].toNat : Int) == 0) = true := by simp; omega
              go_wp2_with fail
              refine (fail_any g S i (a' + 1) false _ kv _ ((HC.out.drewN _).set2 hlt)).mono ?_
              rintro e w2 ⟨rfl, hC2, hK2⟩
              have HC2 := Lib.hid hC2
              have HK2 := Lib.hid (((HK.out.drewN _).setg 2 _).trans hK2)
              clear hC2 hK2
              go_wp2_with fail
              go_roundw
              case rel => exact ⟨(a' + 1), _, _, rfl, HC2.out.alloc _, HK2.out.alloc _, by omega, by simp [ByteArray.size_append, one_size]; omega, fun h => absurd (HB.out h) (by decide)⟩
              case measure =>
                rw [(HC2.out.alloc _).c2, h2]
                simp [intOf]
                omega
            · by_cases q1 : 127 < ((S.L i)[a'].toNat : Int)
              · have n0 : (((S.L i)[a'].toNat : Int) == 0) = false := by simp; omega
                have n1 : decide (127 < ((S.L i)[a'].toNat : Int)) = true := by simp; omega
                go_wp2_with fail
                refine (fail_any g S i (a' + 1) false _ kv _ ((HC.out.drewN _).set2 hlt)).mono ?_
                rintro e w2 ⟨rfl, hC2, hK2⟩
                have HC2 := Lib.hid hC2
                have HK2 := Lib.hid (((HK.out.drewN _).setg 2 _).trans hK2)
                clear hC2 hK2
                go_wp2_with fail
                go_roundw
                case rel => exact ⟨(a' + 1), _, _, rfl, HC2.out.alloc _, HK2.out.alloc _, by omega, by simp [ByteArray.size_append, one_size]; omega, fun h => absurd (HB.out h) (by decide)⟩
                case measure =>
                  rw [(HC2.out.alloc _).c2, h2]
                  simp [intOf]
                  omega
              · by_cases q2 : ((S.L i)[a'].toNat : Int) = 13
                · have n0 : (((S.L i)[a'].toNat : Int) == 0) = false := by simp; omega
                  have n1 : decide (127 < ((S.L i)[a'].toNat : Int)) = false := by simp; omega
                  have n2 : (((S.L i)[a'].toNat : Int) == 13) = true := by simp; omega
                  go_wp2_with fail
                  refine (fail_any g S i (a' + 1) false _ kv _ ((HC.out.drewN _).set2 hlt)).mono ?_
                  rintro e w2 ⟨rfl, hC2, hK2⟩
                  have HC2 := Lib.hid hC2
                  have HK2 := Lib.hid (((HK.out.drewN _).setg 2 _).trans hK2)
                  clear hC2 hK2
                  go_wp2_with fail
                  go_roundw
                  case rel => exact ⟨(a' + 1), _, _, rfl, HC2.out.alloc _, HK2.out.alloc _, by omega, by simp [ByteArray.size_append, one_size]; omega, fun h => absurd (HB.out h) (by decide)⟩
                  case measure =>
                    rw [(HC2.out.alloc _).c2, h2]
                    simp [intOf]
                    omega
                · by_cases q3 : ((S.L i)[a'].toNat : Int) = 10
                  · have n0 : (((S.L i)[a'].toNat : Int) == 0) = false := by simp; omega
                    have n1 : decide (127 < ((S.L i)[a'].toNat : Int)) = false := by simp; omega
                    have n2 : (((S.L i)[a'].toNat : Int) == 13) = false := by simp; omega
                    have n3 : (((S.L i)[a'].toNat : Int) == 10) = true := by simp; omega
                    go_wp2_with fail
                    refine (fail_any g S i (a' + 1) false _ kv _ ((HC.out.drewN _).set2 hlt)).mono ?_
                    rintro e w2 ⟨rfl, hC2, hK2⟩
                    have HC2 := Lib.hid hC2
                    have HK2 := Lib.hid (((HK.out.drewN _).setg 2 _).trans hK2)
                    clear hC2 hK2
                    go_wp2_with fail
                    go_roundw
                    case rel => exact ⟨(a' + 1), _, _, rfl, HC2.out.alloc _, HK2.out.alloc _, by omega, by simp [ByteArray.size_append, one_size]; omega, fun h => absurd (HB.out h) (by decide)⟩
                    case measure =>
                      rw [(HC2.out.alloc _).c2, h2]
                      simp [intOf]
                      omega
                  · have n0 : (((S.L i)[a'].toNat : Int) == 0) = false := by simp; omega
                    have n1 : decide (127 < ((S.L i)[a'].toNat : Int)) = false := by simp; omega
                    have n2 : (((S.L i)[a'].toNat : Int) == 13) = false := by simp; omega
                    have n3 : (((S.L i)[a'].toNat : Int) == 10) = false := by simp; omega
                    go_wp2_with fail
                    refine (fail_any g S i (a' + 1) false _ kv _ ((HC.out.drewN _).set2 hlt)).mono ?_
                    rintro e w2 ⟨rfl, hC2, hK2⟩
                    have HC2 := Lib.hid hC2
                    have HK2 := Lib.hid (((HK.out.drewN _).setg 2 _).trans hK2)
                    clear hC2 hK2
                    go_wp2_with fail
                    go_roundw
                    case rel => exact ⟨(a' + 1), _, _, rfl, HC2.out.alloc _, HK2.out.alloc _, by omega, by simp [ByteArray.size_append, one_size]; omega, fun h => absurd (HB.out h) (by decide)⟩
                    case measure =>
                      rw [(HC2.out.alloc _).c2, h2]
                      simp [intOf]
                      omega
      · go_wp2_with fail
        go_quiet (fail)
        go_wp2_with fail
        go_ret
        exact ⟨_, rfl, by decide, i, a', true, (HC.out.drewN _).set3 true, (HK.out.drewN _).setg 3 _, left_le haa, fun _ => rfl⟩
    · go_wp2_with fail
      go_ret
      exact ⟨_, rfl, by decide, i, a', true, HC.out, HK.out, left_le haa, fun _ => rfl⟩

end Go.Proofs.YtjamgkcmpcnfpaaGreatDoor

/-
  The reference's 'literal'.
  The reference's 'str', 'short', 'tag'.
  The reference's 'Small' and 'name'.
  The reference's 'flagged', 'dated', 'headed', 'ops': what names stand for.
-/
import Derived.Test.YtjamgkcmpcnfpaaGreatDoorS08
import Derived.Test.YtjamgkcmpcnfpaaGreatDoorS09
import Derived.Test.YtjamgkcmpcnfpaaGreatDoorS02
set_option linter.unusedVariables false
set_option linter.unusedSimpArgs false

namespace Go.Proofs.YtjamgkcmpcnfpaaGreatDoor
open Go.RowKit

theorem left_two {S : Src} {i a : Nat} (hi : i + 2 < S.n) (ha : a ≤ 2000) : left S (i + 2) 0 ≤ left S i a := by
  unfold left
  omega

set_option maxHeartbeats 4000000 in
set_option maxRecDepth 100000 in
theorem literal24 (g : Nat) (S : Src) (i a : Nat) (bad : Bool) (kv : Value) (w : World) (h : Cur g S w i a bad kv) :
    Calls Tryz.prog 98 #[CC g] w (StrMoves g S kv (left S i a) bad w) := by
  have h0 := h.c0
  have h1 := h.c1
  have h2 := h.c2
  have h3 := h.c3
  have hs := h.at_
  have hi := h.hi
  have hn := h.hn
  have ha := h.a2000
  have hsz := h.sz i hi
  have H := Lib.hid h
  clear h
  have hw2 : IntKind.i64.wrap ((i : Int) + 2) = (i : Int) + 2 := IntWalk.i64_in _ (by omega)
  have wrongs : ∀ (w' : World), Cur g S w' i a true kv → Kept g w w' → StrMoves g S kv (left S i a) bad w (.returned (.string ⟨#[]⟩)) w' := fun w' hC hK => ⟨_, rfl, by decide, i, a, _, hC, hK, Nat.le_refl _, fun _ => rfl⟩
  have HW := Lib.hid wrongs
  clear wrongs
  go_enter Tryz.func98, Tryz.ntmps98
  go_wp2_with fail
  refine wp_region_quiet_tail 36 (by kernel_rfl) (by kernel_rfl) ?_
  simp only [List.take_succ_cons, List.take_zero, List.drop_succ_cons, List.drop_zero]
  cases bad
  · by_cases hlt : a = (S.L i).size
    · have hb1 : ((a : Int) != ((S.L i).size : Int)) = false := by simp [hlt]
      by_cases h2n : i + 2 < S.n
      · repeat (go_big_quiet_step (fail))
        refine wpQuiet_nil ?_
        rintro w1 ⟨m, rfl⟩
        go_wp2_with fail
        refine (fail_any g S i a false _ kv _ (H.out.drewN _)).mono ?_
        rintro e w2 ⟨rfl, hC, hK⟩
        rw [show decide ((S.n : Int) ≤ (i : Int) + 2) = false by simp; omega, Bool.or_false] at hC
        have c0 := hC.c0
        have c1 := hC.c1
        have c2 := hC.c2
        have c3 := hC.c3
        have f1 := hC.f1
        have f2 := hC.f2
        have hs2 := hC.src (i + 1) (by omega)
        have hz2 := hC.sz (i + 1) (by omega)
        have HC := Lib.hid hC
        have HK := Lib.hid (((Kept.refl g w).drewN m).trans hK)
        clear hC hK h0 h1 h2 h3 hs
        have hw1 : IntKind.i64.wrap ((i : Int) + 1) = (i : Int) + 1 := IntWalk.i64_in _ (by omega)
        go_wp2_with fail
        go_quiet (fail)
        go_wp2_with fail
        go_ret
        exact ⟨_, rfl, hz2, i + 2, 0, _, (HC.out.drewN _).set12 h2n, ((HK.out.drewN _).setg 1 _).setg 2 _, left_two h2n ha, fun h => by cases h⟩
      · repeat (go_big_quiet_step (fail))
        refine wpQuiet_nil ?_
        rintro w1 ⟨m, rfl⟩
        go_wp2_with fail
        refine (fail_any g S i a false _ kv _ (H.out.drewN _)).mono ?_
        rintro e w2 ⟨rfl, hC, hK⟩
        rw [show decide ((S.n : Int) ≤ (i : Int) + 2) = true by simp; omega, Bool.or_true] at hC
        have c3 := hC.c3
        have HC := Lib.hid hC
        have HK := Lib.hid (((Kept.refl g w).drewN m).trans hK)
        clear hC hK h0 h1 h2 h3 hs
        go_wp2_with fail
        go_ret
        exact HW.out _ HC.out HK.out
    · have hb1 : ((a : Int) != ((S.L i).size : Int)) = true := by simp; omega
      repeat (go_big_quiet_step (fail))
      refine wpQuiet_nil ?_
      rintro w1 ⟨m, rfl⟩
      go_wp2_with fail
      refine (fail_any g S i a false _ kv _ (H.out.drewN _)).mono ?_
      rintro e w2 ⟨rfl, hC, hK⟩
      rw [Bool.or_true] at hC
      have c3 := hC.c3
      have HC := Lib.hid hC
      have HK := Lib.hid (((Kept.refl g w).drewN m).trans hK)
      clear hC hK h0 h1 h2 h3 hs
      go_wp2_with fail
      go_ret
      exact HW.out _ HC.out HK.out
  · repeat (go_big_quiet_step (fail))
    refine wpQuiet_nil ?_
    rintro w1 ⟨m, rfl⟩
    go_wp2_with fail
    refine (fail_any g S i a true _ kv _ (H.out.drewN _)).mono ?_
    rintro e w2 ⟨rfl, hC, hK⟩
    rw [Bool.true_or] at hC
    have c3 := hC.c3
    have HC := Lib.hid hC
    have HK := Lib.hid (((Kept.refl g w).drewN m).trans hK)
    clear hC hK h0 h1 h2 h3 hs
    go_wp2_with fail
    go_ret
    exact HW.out _ HC.out HK.out

end Go.Proofs.YtjamgkcmpcnfpaaGreatDoor

namespace Go.Proofs.YtjamgkcmpcnfpaaGreatDoor
open Go.RowKit

theorem StrMoves.step {g : Nat} {S : Src} {kv : Value} {r r' : Nat} {bad bad' : Bool} {w w1 w' : World} {e : Ending} (h : StrMoves g S kv r' bad' w1 e w') (hK : Kept g w w1) (hr : r' ≤ r) (hb : bad = true → bad' = true) : StrMoves g S kv r bad w e w' := by
  obtain ⟨s, rfl, hs, hM⟩ := h
  exact ⟨s, rfl, hs, hM.step hK hr hb⟩

set_option maxHeartbeats 4000000 in
set_option maxRecDepth 100000 in
theorem str24 (g : Nat) (S : Src) (i a : Nat) (bad : Bool) (kv : Value) (more : ByteArray) (w : World) (h : Cur g S w i a bad kv) (hm : more.size ≤ 100) :
    Calls Tryz.prog 66 #[CC g, .string more] w (StrMoves g S kv (left S i a) bad w) := by
  have hI := Lib.hid (if1_any g S i a bad kv 34 w h)
  clear h
  go_enter Tryz.func66, Tryz.ntmps66
  go_wp2_with fail
  refine hI.out.mono ?_
  rintro e w1 ⟨v, rfl, ⟨i1, a1, bad1, hC1, hK1, hl1, hb1⟩, _⟩
  have HL := Lib.hid (fun W (hW : ∃ m, W = w1.drewN m) => (literal24 g S i1 a1 bad1 kv W (by obtain ⟨m, rfl⟩ := hW; exact hC1.drewN m)).mono fun e w' hs => (hs.step (by obtain ⟨m, rfl⟩ := hW; exact hK1.drewN m) hl1 hb1 : StrMoves g S kv (left S i a) bad w e w'))
  have HQ := Lib.hid ((quoted24 g S i1 a1 bad1 kv w1 hC1).mono fun e w' hs => (hs.step hK1 hl1 hb1 : StrMoves g S kv (left S i a) bad w e w'))
  have HW := Lib.hid (fun W (hW : ∃ m, W = w1.drewN m) => (word24 g S i1 a1 bad1 kv more W (by obtain ⟨m, rfl⟩ := hW; exact hC1.drewN m) hm).mono fun e w' hs => (hs.step (by obtain ⟨m, rfl⟩ := hW; exact hK1.drewN m) hl1 hb1 : StrMoves g S kv (left S i a) bad w e w'))
  have h0 := hC1.c0
  have h1 := hC1.c1
  have h2 := hC1.c2
  have h3 := hC1.c3
  have hs := hC1.at_
  have hi := hC1.hi
  have hn := hC1.hn
  have ha := hC1.a2000
  have hsz := hC1.sz i1 hi
  clear hC1 hK1 hl1 hb1
  cases v
  · have hw2 : IntKind.i64.wrap ((i1 : Int) + 2) = (i1 : Int) + 2 := IntWalk.i64_in _ (by omega)
    go_wp2_with fail
    refine wp_region_quiet_lit (by kernel_rfl) (by kernel_rfl) ?_
    cases bad1
    · by_cases hlt : a1 = (S.L i1).size
      · have hb1 : ((a1 : Int) == ((S.L i1).size : Int)) = true := by simp [hlt]
        by_cases h2n : i1 + 2 < S.n
        · repeat (go_big_quiet_step (fail))
          refine wpQuiet_nil ?_
          rintro w2 ⟨m, rfl⟩
          have hd : decide ((i1 : Int) + 2 < (S.n : Int)) = true := by simp; omega
          go_wp2_with fail
          refine (HL.out _ ⟨_, rfl⟩).mono ?_
          rintro e w3 ⟨s, rfl, hs, hM⟩
          go_wp2_with fail
          go_ret
          exact ⟨s, rfl, hs, hM⟩
        · repeat (go_big_quiet_step (fail))
          refine wpQuiet_nil ?_
          rintro w2 ⟨m, rfl⟩
          have hd : decide ((i1 : Int) + 2 < (S.n : Int)) = false := by simp; omega
          go_wp2_with fail
          refine (HW.out _ ⟨_, rfl⟩).mono ?_
          rintro e w3 ⟨s, rfl, hs, hM⟩
          go_wp2_with fail
          go_ret
          exact ⟨s, rfl, hs, hM⟩
      · have hb1 : ((a1 : Int) == ((S.L i1).size : Int)) = false := by simp; omega
        repeat (go_big_quiet_step (fail))
        refine wpQuiet_nil ?_
        rintro w2 ⟨m, rfl⟩
        go_wp2_with fail
        refine (HW.out _ ⟨_, rfl⟩).mono ?_
        rintro e w3 ⟨s, rfl, hs, hM⟩
        go_wp2_with fail
        go_ret
        exact ⟨s, rfl, hs, hM⟩
    · repeat (go_big_quiet_step (fail))
      refine wpQuiet_nil ?_
      rintro w2 ⟨m, rfl⟩
      go_wp2_with fail
      refine (HW.out _ ⟨_, rfl⟩).mono ?_
      rintro e w3 ⟨s, rfl, hs, hM⟩
      go_wp2_with fail
      go_ret
      exact ⟨s, rfl, hs, hM⟩
  · go_wp2_with fail
    refine HQ.out.mono ?_
    rintro e w3 ⟨s, rfl, hs, hM⟩
    go_wp2_with fail
    go_ret
    exact ⟨s, rfl, hs, hM⟩

set_option maxHeartbeats 1000000 in
theorem short24 (g : Nat) (S : Src) (i a : Nat) (bad : Bool) (kv : Value) (most : Int) (w : World) (h : Cur g S w i a bad kv) :
    Calls Tryz.prog 64 #[CC g, .int .i64 most] w (StrMoves g S kv (left S i a) bad w) := by
  have hI := Lib.hid (str24 g S i a bad kv ⟨#[]⟩ w h (by decide))
  clear h
  go_enter Tryz.func64, Tryz.ntmps64
  go_wp2_with fail
  refine hI.out.mono ?_
  rintro e w1 ⟨s, rfl, hs, i1, a1, bad1, hC1, hK1, hl1, hb1⟩
  have HC1 := Lib.hid hC1
  have HK1 := Lib.hid hK1
  have HB1 := Lib.hid hb1
  clear hC1 hK1 hb1
  go_wp2_with fail
  refine (fail_any g S i1 a1 bad1 _ kv _ HC1.out).mono ?_
  rintro e w2 ⟨rfl, hC2, hK2⟩
  go_wp2_with fail
  go_ret
  exact ⟨s, rfl, hs, i1, a1, _, hC2, HK1.out.trans hK2, hl1, fun h => by rw [HB1.out h]; rfl⟩

end Go.Proofs.YtjamgkcmpcnfpaaGreatDoor

namespace Go.Proofs.YtjamgkcmpcnfpaaGreatDoor
open Go.RowKit

set_option maxHeartbeats 2000000 in
theorem small20 (s : ByteArray) (w : World) (hs : s.size ≤ 9223372036854775807) :
    Calls Tryz.prog 62 #[.string s] w fun e w' => e = .returned (.string ⟨(smallL s.data.toList).toArray⟩) ∧ Below w.heap.size w w' := by
  have hconv := fun w : World => Lib.run_convert_string_bytes (P := Tryz.prog) w 9 35 5 s Tryz.underlying9 Tryz.underlying35 Tryz.underlying5
  go_enter Tryz.func62, Tryz.ntmps62
  go_wp2_with fail
  clear hconv
  go_loopw [4] (fun i wr => ∃ k : Nat, k ≤ s.size ∧ i = .int .i64 k ∧ SmallRel s w k wr)
    (fun i _ => s.size - (intOf i).toNat)
  case atStart => exact ⟨0, by omega, rfl, SmallRel.start s w⟩
  case round =>
    obtain ⟨k, hk, rfl, hR⟩ := hrel
    by_cases hlt : k < s.size
    · have hc0 : wr.cell? ⟨w.heap.size, k, none⟩ = some (.int .u8 (byteAt s k)) := by have := (hR.2.2 k hlt).1; rwa [if_neg (by omega)] at this
      have hf0 := (hR.2.2 k hlt).2
      have hb := byteAt_lt s k
      have hb1 := hb.1
      have hb2 := hb.2
      clear hb
      have hst := hR.store hlt
      have hsk := hR.skip
      clear hR
      generalize byteAt s k = c at *
      by_cases h1 : 65 ≤ c
      · by_cases h2 : c ≤ 90
        · have hR' := hst (c + 32) (by unfold lowC; rw [if_pos ⟨h1, h2⟩])
          clear hst hsk
          go_wp2_with fail
          go_roundw
          case rel => exact ⟨k + 1, by omega, by go_num, hR'⟩
          case measure => simp [intOf]; omega
        · have hR' := hsk (lowC_hi c (by omega)).symm
          clear hst hsk
          go_wp2_with fail
          go_roundw
          case rel => exact ⟨k + 1, by omega, by go_num, hR'⟩
          case measure => simp [intOf]; omega
      · have hR' := hsk (lowC_lo c (by omega)).symm
        clear hst hsk
        go_wp2_with fail
        go_roundw
        case rel => exact ⟨k + 1, by omega, by go_num, hR'⟩
        case measure => simp [intOf]; omega
    · have e : k = s.size := by omega
      subst e
      have hS := fun cap => hR.string cap
      have hB := hR.1
      clear hR
      go_wp2_with fail
      go_ret
      exact ⟨rfl, hB⟩


theorem one_byte2 (w : World) (m : Nat) (x : Int) : (convert 35 9 (.slice (some ⟨w.heap.size, 0, none⟩) 1 1)).run Tryz.prog ((w.drewN m).alloc (.cells #[.int .u8 x] 5)) = .ok (.string (strOfNums [x])) ((w.drewN m).alloc (.cells #[.int .u8 x] 5)) := one_byte (w.drewN m) x

theorem small_size (s : ByteArray) : (⟨(smallL s.data.toList).toArray⟩ : ByteArray).size = s.size := by
  rw [size_bytes, size_bytes]
  simp [smallL]

/-- A name is returned; none, where something was wrong; the cursor moved. -/
def NameMoves (g : Nat) (S : Src) (kv : Value) (r : Nat) (bad : Bool) (w : World) (e : Ending) (w' : World) : Prop :=
  ∃ s : ByteArray, e = .returned (.string s) ∧ s.size ≤ 2000 ∧ Moves g S kv r bad w w' ∧ (bad = true → s = ⟨#[]⟩)

/-- What holds ahead of a round. -/
def NameR (g : Nat) (S : Src) (kv : Value) (i a : Nat) (bad : Bool) (w : World) (s : Value) (wr : World) : Prop :=
  ∃ (a' : Nat) (t : ByteArray), s = .string t ∧ Cur g S wr i a' bad kv ∧ Kept g w wr ∧ a ≤ a' ∧ t.size ≤ a' ∧ (bad = true → t = ⟨#[]⟩)

set_option maxHeartbeats 16000000 in
set_option maxRecDepth 100000 in
theorem name24 (g : Nat) (S : Src) (i a : Nat) (bad : Bool) (kv : Value) (more : ByteArray) (w : World) (h : Cur g S w i a bad kv) (hm : more.size ≤ 100) :
    Calls Tryz.prog 36 #[CC g, .string more] w (NameMoves g S kv (left S i a) bad w) := by
  have hi := h.hi
  have hn := h.hn
  have hsz := h.sz i hi
  have H := Lib.hid h
  have hone := one_byte2
  have hosz := one_size
  clear h
  go_enter Tryz.func36, Tryz.ntmps36
  go_wp2_with fail
  go_loopw [5] (fun s wr => NameR g S kv i a bad w s wr) (fun _ wr => 2001 - (intOf ((wr.cell? ⟨g, 2, none⟩).getD undef)).toNat)
  case atStart => exact ⟨a, ⟨#[]⟩, rfl, H.out, Kept.refl _ _, Nat.le_refl _, Nat.zero_le _, fun _ => rfl⟩
  case round =>
    obtain ⟨a', t, rfl, hC, hK, haa, hts, hB⟩ := hrel
    have HB := Lib.hid hB
    clear hB
    have has := hC.ha
    have hgl := hC.lt
    have hne : g ≠ wr.heap.size := by omega
    have h0 := hC.c0
    have h1 := hC.c1
    have h2 := hC.c2
    have h3 := hC.c3
    have f2 := hC.f2
    have hs := hC.at_
    have hcA : ∀ (m : Nat) (x : Int), ((wr.drewN m).alloc (.cells #[.int .u8 x] 5)).cell? ⟨g, 2, none⟩ = some (.int .i64 a') := fun m x => ((hC.drewN m).alloc _).c2
    have hfA : ∀ (m : Nat) (x : Int), ((wr.drewN m).alloc (.cells #[.int .u8 x] 5)).frozen? ⟨g, 2, none⟩ = false := fun m x => ((hC.drewN m).alloc _).f2
    have HC := Lib.hid hC
    have HK := Lib.hid hK
    clear hC hK
    go_wp2_with fail
    refine wp_region_quiet_lit (by kernel_rfl) (by kernel_rfl) ?_
    cases bad
    · by_cases hlt : a' < (S.L i).size
      · repeat (go_big_quiet_step (fail))
        refine wpQuiet_nil ?_
        rintro w1 ⟨m, rfl⟩
        have wrapS := Lib.hid (show IntKind.i64.wrap ((a' : Int) + 1) = (a' : Int) + 1 from IntWalk.i64_in _ (by omega))
        go_wp2_with fail
        go_quiet (fail)
        generalize ((S.L i)[a'].toNat : Int) = x
        by_cases q1 : 97 ≤ x
        · by_cases q2 : x ≤ 122
          · skip
            have t0 : decide (97 ≤ x) = true := by simp; omega
            have t1 : decide (x ≤ 122) = true := by simp; omega
            go_wp2_with fail
            go_roundw
            case rel => exact ⟨a' + 1, _, rfl, ((HC.out.drewN _).alloc _).set2 hlt, ((HK.out.drewN _).alloc _).setg 2 _, by omega, by simp [ByteArray.size_append, one_size]; omega, fun h => by cases h⟩
            case measure =>
              rw [World.cell?_setCell_same _ _ _ (hcA _ _), h2]
              simp [intOf]
              omega
          · skip
            have t0 : decide (97 ≤ x) = true := by simp; omega
            have t1 : decide (x ≤ 122) = false := by simp; omega
            have t2 : decide (65 ≤ x) = true := by simp; omega
            have t3 : decide (x ≤ 90) = false := by simp; omega
            have t4 : decide (48 ≤ x) = true := by simp; omega
            have t5 : decide (x ≤ 57) = false := by simp; omega
            have t6 : (x == 46) = false := by simp; omega
            cases hq : inQ more x
            · have HI := fun w => in24 more x w (by omega)
              rw [hq] at HI
              clear hq
              go_wp2_with fail
              refine (HI _).mono ?_
              rintro e w2 ⟨rfl, rfl⟩
              go_wp2_with fail
              refine (fail_any g S i a' false _ kv _ (HC.out.drewN _)).mono ?_
              rintro e w2 ⟨rfl, hC2, hK2⟩
              have HC2 := Lib.hid hC2
              have HK2 := Lib.hid ((HK.out.drewN _).trans hK2)
              clear hC2 hK2 h0 h1 h2 h3 hs
              go_wp2_with fail
              refine (small20 t w2 (by omega)).mono ?_
              rintro e w3 ⟨rfl, hb3⟩
              go_wp2_with fail
              go_ret
              exact ⟨_, rfl, by rw [small_size]; omega, ⟨i, a', _, HC2.out.step hb3, HK2.out.andBelow hb3 HK2.out.size, left_le haa, fun h => by cases h⟩, fun h => by cases h⟩
            · have HI := fun w => in24 more x w (by omega)
              rw [hq] at HI
              clear hq
              go_wp2_with fail
              refine (HI _).mono ?_
              rintro e w2 ⟨rfl, rfl⟩
              go_wp2_with fail
              go_roundw
              case rel => exact ⟨a' + 1, _, rfl, ((HC.out.drewN _).alloc _).set2 hlt, ((HK.out.drewN _).alloc _).setg 2 _, by omega, by simp [ByteArray.size_append, one_size]; omega, fun h => by cases h⟩
              case measure =>
                rw [World.cell?_setCell_same _ _ _ (hcA _ _), h2]
                simp [intOf]
                omega
        · by_cases q3 : 65 ≤ x
          · by_cases q4 : x ≤ 90
            · skip
              have t0 : decide (97 ≤ x) = false := by simp; omega
              have t1 : decide (65 ≤ x) = true := by simp; omega
              have t2 : decide (x ≤ 90) = true := by simp; omega
              go_wp2_with fail
              go_roundw
              case rel => exact ⟨a' + 1, _, rfl, ((HC.out.drewN _).alloc _).set2 hlt, ((HK.out.drewN _).alloc _).setg 2 _, by omega, by simp [ByteArray.size_append, one_size]; omega, fun h => by cases h⟩
              case measure =>
                rw [World.cell?_setCell_same _ _ _ (hcA _ _), h2]
                simp [intOf]
                omega
            · skip
              have t0 : decide (97 ≤ x) = false := by simp; omega
              have t1 : decide (65 ≤ x) = true := by simp; omega
              have t2 : decide (x ≤ 90) = false := by simp; omega
              have t3 : decide (48 ≤ x) = true := by simp; omega
              have t4 : decide (x ≤ 57) = false := by simp; omega
              have t5 : (x == 46) = false := by simp; omega
              cases hq : inQ more x
              · have HI := fun w => in24 more x w (by omega)
                rw [hq] at HI
                clear hq
                go_wp2_with fail
                refine (HI _).mono ?_
                rintro e w2 ⟨rfl, rfl⟩
                go_wp2_with fail
                refine (fail_any g S i a' false _ kv _ (HC.out.drewN _)).mono ?_
                rintro e w2 ⟨rfl, hC2, hK2⟩
                have HC2 := Lib.hid hC2
                have HK2 := Lib.hid ((HK.out.drewN _).trans hK2)
                clear hC2 hK2 h0 h1 h2 h3 hs
                go_wp2_with fail
                refine (small20 t w2 (by omega)).mono ?_
                rintro e w3 ⟨rfl, hb3⟩
                go_wp2_with fail
                go_ret
                exact ⟨_, rfl, by rw [small_size]; omega, ⟨i, a', _, HC2.out.step hb3, HK2.out.andBelow hb3 HK2.out.size, left_le haa, fun h => by cases h⟩, fun h => by cases h⟩
              · have HI := fun w => in24 more x w (by omega)
                rw [hq] at HI
                clear hq
                go_wp2_with fail
                refine (HI _).mono ?_
                rintro e w2 ⟨rfl, rfl⟩
                go_wp2_with fail
                go_roundw
                case rel => exact ⟨a' + 1, _, rfl, ((HC.out.drewN _).alloc _).set2 hlt, ((HK.out.drewN _).alloc _).setg 2 _, by omega, by simp [ByteArray.size_append, one_size]; omega, fun h => by cases h⟩
                case measure =>
                  rw [World.cell?_setCell_same _ _ _ (hcA _ _), h2]
                  simp [intOf]
                  omega
          · by_cases q5 : 48 ≤ x
            · by_cases q6 : x ≤ 57
              · skip
                have t0 : decide (97 ≤ x) = false := by simp; omega
                have t1 : decide (65 ≤ x) = false := by simp; omega
                have t2 : decide (48 ≤ x) = true := by simp; omega
                have t3 : decide (x ≤ 57) = true := by simp; omega
                go_wp2_with fail
                go_roundw
                case rel => exact ⟨a' + 1, _, rfl, ((HC.out.drewN _).alloc _).set2 hlt, ((HK.out.drewN _).alloc _).setg 2 _, by omega, by simp [ByteArray.size_append, one_size]; omega, fun h => by cases h⟩
                case measure =>
                  rw [World.cell?_setCell_same _ _ _ (hcA _ _), h2]
                  simp [intOf]
                  omega
              · skip
                have t0 : decide (97 ≤ x) = false := by simp; omega
                have t1 : decide (65 ≤ x) = false := by simp; omega
                have t2 : decide (48 ≤ x) = true := by simp; omega
                have t3 : decide (x ≤ 57) = false := by simp; omega
                have t4 : (x == 46) = false := by simp; omega
                cases hq : inQ more x
                · have HI := fun w => in24 more x w (by omega)
                  rw [hq] at HI
                  clear hq
                  go_wp2_with fail
                  refine (HI _).mono ?_
                  rintro e w2 ⟨rfl, rfl⟩
                  go_wp2_with fail
                  refine (fail_any g S i a' false _ kv _ (HC.out.drewN _)).mono ?_
                  rintro e w2 ⟨rfl, hC2, hK2⟩
                  have HC2 := Lib.hid hC2
                  have HK2 := Lib.hid ((HK.out.drewN _).trans hK2)
                  clear hC2 hK2 h0 h1 h2 h3 hs
                  go_wp2_with fail
                  refine (small20 t w2 (by omega)).mono ?_
                  rintro e w3 ⟨rfl, hb3⟩
                  go_wp2_with fail
                  go_ret
                  exact ⟨_, rfl, by rw [small_size]; omega, ⟨i, a', _, HC2.out.step hb3, HK2.out.andBelow hb3 HK2.out.size, left_le haa, fun h => by cases h⟩, fun h => by cases h⟩
                · have HI := fun w => in24 more x w (by omega)
                  rw [hq] at HI
                  clear hq
                  go_wp2_with fail
                  refine (HI _).mono ?_
                  rintro e w2 ⟨rfl, rfl⟩
                  go_wp2_with fail
                  go_roundw
                  case rel => exact ⟨a' + 1, _, rfl, ((HC.out.drewN _).alloc _).set2 hlt, ((HK.out.drewN _).alloc _).setg 2 _, by omega, by simp [ByteArray.size_append, one_size]; omega, fun h => by cases h⟩
                  case measure =>
                    rw [World.cell?_setCell_same _ _ _ (hcA _ _), h2]
                    simp [intOf]
                    omega
            · by_cases q7 : x = 46
              · skip
                have t0 : decide (97 ≤ x) = false := by simp; omega
                have t1 : decide (65 ≤ x) = false := by simp; omega
                have t2 : decide (48 ≤ x) = false := by simp; omega
                have t3 : (x == 46) = true := by simp; omega
                go_wp2_with fail
                go_roundw
                case rel => exact ⟨a' + 1, _, rfl, ((HC.out.drewN _).alloc _).set2 hlt, ((HK.out.drewN _).alloc _).setg 2 _, by omega, by simp [ByteArray.size_append, one_size]; omega, fun h => by cases h⟩
                case measure =>
                  rw [World.cell?_setCell_same _ _ _ (hcA _ _), h2]
                  simp [intOf]
                  omega
              · skip
                have t0 : decide (97 ≤ x) = false := by simp; omega
                have t1 : decide (65 ≤ x) = false := by simp; omega
                have t2 : decide (48 ≤ x) = false := by simp; omega
                have t3 : (x == 46) = false := by simp; omega
                cases hq : inQ more x
                · have HI := fun w => in24 more x w (by omega)
                  rw [hq] at HI
                  clear hq
                  go_wp2_with fail
                  refine (HI _).mono ?_
                  rintro e w2 ⟨rfl, rfl⟩
                  go_wp2_with fail
                  refine (fail_any g S i a' false _ kv _ (HC.out.drewN _)).mono ?_
                  rintro e w2 ⟨rfl, hC2, hK2⟩
                  have HC2 := Lib.hid hC2
                  have HK2 := Lib.hid ((HK.out.drewN _).trans hK2)
                  clear hC2 hK2 h0 h1 h2 h3 hs
                  go_wp2_with fail
                  refine (small20 t w2 (by omega)).mono ?_
                  rintro e w3 ⟨rfl, hb3⟩
                  go_wp2_with fail
                  go_ret
                  exact ⟨_, rfl, by rw [small_size]; omega, ⟨i, a', _, HC2.out.step hb3, HK2.out.andBelow hb3 HK2.out.size, left_le haa, fun h => by cases h⟩, fun h => by cases h⟩
                · have HI := fun w => in24 more x w (by omega)
                  rw [hq] at HI
                  clear hq
                  go_wp2_with fail
                  refine (HI _).mono ?_
                  rintro e w2 ⟨rfl, rfl⟩
                  go_wp2_with fail
                  go_roundw
                  case rel => exact ⟨a' + 1, _, rfl, ((HC.out.drewN _).alloc _).set2 hlt, ((HK.out.drewN _).alloc _).setg 2 _, by omega, by simp [ByteArray.size_append, one_size]; omega, fun h => by cases h⟩
                  case measure =>
                    rw [World.cell?_setCell_same _ _ _ (hcA _ _), h2]
                    simp [intOf]
                    omega
      · repeat (go_big_quiet_step (fail))
        refine wpQuiet_nil ?_
        rintro w1 ⟨m, rfl⟩
        go_wp2_with fail
        refine (fail_any g S i a' false _ kv _ (HC.out.drewN _)).mono ?_
        rintro e w2 ⟨rfl, hC2, hK2⟩
        have HC2 := Lib.hid hC2
        have HK2 := Lib.hid ((HK.out.drewN _).trans hK2)
        clear hC2 hK2 h0 h1 h2 h3 hs
        go_wp2_with fail
        refine (small20 t w2 (by omega)).mono ?_
        rintro e w3 ⟨rfl, hb3⟩
        go_wp2_with fail
        go_ret
        exact ⟨_, rfl, by rw [small_size]; omega, ⟨i, a', _, HC2.out.step hb3, HK2.out.andBelow hb3 HK2.out.size, left_le haa, fun h => by cases h⟩, fun h => by cases h⟩
    · repeat (go_big_quiet_step (fail))
      refine wpQuiet_nil ?_
      rintro w1 ⟨m, rfl⟩
      go_wp2_with fail
      refine (fail_any g S i a' true _ kv _ (HC.out.drewN _)).mono ?_
      rintro e w2 ⟨rfl, hC2, hK2⟩
      have HC2 := Lib.hid hC2
      have HK2 := Lib.hid ((HK.out.drewN _).trans hK2)
      clear hC2 hK2 h0 h1 h2 h3 hs
      go_wp2_with fail
      refine (small20 t w2 (by omega)).mono ?_
      rintro e w3 ⟨rfl, hb3⟩
      go_wp2_with fail
      go_ret
      exact ⟨_, rfl, by rw [small_size]; omega, ⟨i, a', _, HC2.out.step hb3, HK2.out.andBelow hb3 HK2.out.size, left_le haa, fun _ => rfl⟩, fun _ => by rw [HB.out trivial]; rfl⟩

end Go.Proofs.YtjamgkcmpcnfpaaGreatDoor

namespace Go.Proofs.YtjamgkcmpcnfpaaGreatDoor
open Go.RowKit

/-- A number is returned; what was there stands. -/
def IntBelow (w : World) (e : Ending) (w' : World) : Prop := ∃ v : Int, e = .returned (.int .i64 v) ∧ Below w.heap.size w w'
/-- A string is returned; what was there stands. -/
def StrBelow (w : World) (e : Ending) (w' : World) : Prop := ∃ s : ByteArray, e = .returned (.string s) ∧ Below w.heap.size w w'

set_option maxHeartbeats 4000000 in
theorem flagged24 (s : ByteArray) (w : World) : Calls Tryz.prog 171 #[.string s] w (IntBelow w) := by
  go_enter Tryz.func171, Tryz.ntmps171
  go_wp2_with fail
  all_goals
    go_ret
    exact ⟨_, rfl, Below.refl _ _⟩

/-- Is it a string? -/
def isStr : Value → Bool
  | .string _ => true
  | _ => false

theorem str_at (cs : Array Value) (h : cs.all isStr = true) (k : Nat) (hk : k < cs.size) : ∃ s, cs[k]? = some (.string s) := by
  have := Array.all_eq_true.1 h k hk
  rw [Array.getElem?_eq_getElem hk]
  revert this
  cases cs[k] <;> simp [isStr]

/-- A row of strings lies in the block b. -/
def StrsRow (b n : Nat) (w W : World) : Prop := Below w.heap.size w W ∧ ∀ k, k < n → ∃ s, W.cell? ⟨b, k, none⟩ = some (.string s)

theorem strs_row (w : World) (cs : Array Value) (t : TypeId) (h : cs.all isStr = true) : StrsRow w.heap.size cs.size w (w.alloc (.cells cs t)) :=
  ⟨(Below.refl _ w).alloc (Nat.le_refl _) _, fun k hk => by
    obtain ⟨s, hs⟩ := str_at cs h k hk
    exact ⟨s, cell_hp (MapKept.heap_alloc w _).1 hs⟩⟩

set_option maxHeartbeats 4000000 in
theorem dated24 (s : ByteArray) (w : World) : Calls Tryz.prog 173 #[.string s] w (IntBelow w) := by
  go_enter Tryz.func173, Tryz.ntmps173
  go_wp2_with fail
  refine gen_wp (Q := StrsRow w.heap.size 6 w) (strs_row w _ 9 (by simp [isStr])) ?_
  rintro W ⟨hb, hr⟩
  have HR := Lib.hid hr
  clear hr
  go_loop [4] (fun i => ∃ k : Nat, k ≤ 6 ∧ i = .int .i64 k) (fun i => 6 - (intOf i).toNat)
  case atStart => exact ⟨0, by omega, rfl⟩
  case round =>
    obtain ⟨k, hk, rfl⟩ := hrel
    by_cases hlt : k < 6
    · obtain ⟨x, hx⟩ := HR.out k hlt
      by_cases e : x.toList = s.toList
      · have e' : (x.toList == s.toList) = true := by simpa using e
        clear e
        go_wp2_with fail
        go_ret
        exact ⟨_, rfl, hb⟩
      · have e' : (x.toList == s.toList) = false := by simpa using e
        clear e
        go_wp2_with fail
        go_round
        case rel => exact ⟨k + 1, by omega, by go_num⟩
        case measure => simp [intOf]; omega
    · go_wp2_with fail
      go_ret
      exact ⟨_, rfl, hb⟩

set_option maxHeartbeats 4000000 in
theorem ops24 (s : ByteArray) (w : World) : Calls Tryz.prog 37 #[.string s] w (IntBelow w) := by
  go_enter Tryz.func37, Tryz.ntmps37
  go_wp2_with fail
  refine gen_wp (Q := StrsRow w.heap.size 28 w) (strs_row w _ 9 (by simp [isStr])) ?_
  rintro W ⟨hb, hr⟩
  have HR := Lib.hid hr
  clear hr
  go_loop [4] (fun i => ∃ k : Nat, k ≤ 28 ∧ i = .int .i64 k) (fun i => 28 - (intOf i).toNat)
  case atStart => exact ⟨0, by omega, rfl⟩
  case round =>
    obtain ⟨k, hk, rfl⟩ := hrel
    by_cases hlt : k < 28
    · obtain ⟨x, hx⟩ := HR.out k hlt
      by_cases e : x.toList = s.toList
      · have e' : (x.toList == s.toList) = true := by simpa using e
        clear e
        go_wp2_with fail
        go_ret
        exact ⟨_, rfl, hb⟩
      · have e' : (x.toList == s.toList) = false := by simpa using e
        clear e
        go_wp2_with fail
        go_round
        case rel => exact ⟨k + 1, by omega, by go_num⟩
        case measure => simp [intOf]; omega
    · go_wp2_with fail
      go_ret
      exact ⟨_, rfl, hb⟩

theorem one_byte3 (w : World) (x : Int) : (convert 35 9 (.slice (some ⟨w.heap.size, 0, none⟩) 1 1)).run Tryz.prog ((w.alloc (.cells #[.int .u8 x] 5)).drew) = .ok (.string (strOfNums [x])) ((w.alloc (.cells #[.int .u8 x] 5)).drew) :=
  run_convert_bytes_arg (P := Tryz.prog) ((w.alloc (.cells #[.int .u8 x] 5)).drew) 35 5 Tryz.underlying35 Tryz.underlying5 w.heap.size 0 1 1 [x] rfl (fun i hi => by
    obtain rfl : i = 0 := by omega
    exact cell_hp (show ((w.alloc (.cells #[.int .u8 x] 5)).drew).heap[w.heap.size]? = _ from (MapKept.heap_alloc w _).1) rfl) 9 Tryz.underlying9

theorem str_eq (s : ByteArray) (l : List UInt8) (h : s.toList = l) : s = ⟨l.toArray⟩ := by
  subst h
  rw [Lib.toList_data]

set_option maxHeartbeats 4000000 in
theorem headed24 (s : ByteArray) (w : World) : Calls Tryz.prog 175 #[.string s] w (StrBelow w) := by
  have hone := one_byte3
  have hosz := one_size
  by_cases e0 : s = ⟨#[98, 99, 99]⟩
  · subst e0
    go_enter Tryz.func175, Tryz.ntmps175
    go_wp2_with fail
    go_region
    all_goals go_wp2_with fail
    all_goals (go_ret; exact ⟨_, rfl, ((Below.refl _ _).alloc (Nat.le_refl _) _).drew⟩)
  · by_cases e1 : s = ⟨#[99, 99]⟩
    · subst e1
      go_enter Tryz.func175, Tryz.ntmps175
      go_wp2_with fail
      go_region
      all_goals go_wp2_with fail
      all_goals (go_ret; exact ⟨_, rfl, ((Below.refl _ _).alloc (Nat.le_refl _) _).drew⟩)
    · by_cases e2 : s = ⟨#[102, 114, 111, 109]⟩
      · subst e2
        go_enter Tryz.func175, Tryz.ntmps175
        go_wp2_with fail
        go_region
        all_goals go_wp2_with fail
        all_goals (go_ret; exact ⟨_, rfl, ((Below.refl _ _).alloc (Nat.le_refl _) _).drew⟩)
      · by_cases e3 : s = ⟨#[115, 117, 98, 106, 101, 99, 116]⟩
        · subst e3
          go_enter Tryz.func175, Tryz.ntmps175
          go_wp2_with fail
          go_region
          all_goals go_wp2_with fail
          all_goals (go_ret; exact ⟨_, rfl, ((Below.refl _ _).alloc (Nat.le_refl _) _).drew⟩)
        · by_cases e4 : s = ⟨#[116, 111]⟩
          · subst e4
            go_enter Tryz.func175, Tryz.ntmps175
            go_wp2_with fail
            go_region
            all_goals go_wp2_with fail
            all_goals (go_ret; exact ⟨_, rfl, ((Below.refl _ _).alloc (Nat.le_refl _) _).drew⟩)
          · skip
            have f0 : (s.toList == [98, 99, 99]) = false := by rw [beq_eq_false_iff_ne]; exact fun h => e0 (by rw [str_eq s _ h])
            have f1 : (s.toList == [99, 99]) = false := by rw [beq_eq_false_iff_ne]; exact fun h => e1 (by rw [str_eq s _ h])
            have f2 : (s.toList == [102, 114, 111, 109]) = false := by rw [beq_eq_false_iff_ne]; exact fun h => e2 (by rw [str_eq s _ h])
            have f3 : (s.toList == [115, 117, 98, 106, 101, 99, 116]) = false := by rw [beq_eq_false_iff_ne]; exact fun h => e3 (by rw [str_eq s _ h])
            have f4 : (s.toList == [116, 111]) = false := by rw [beq_eq_false_iff_ne]; exact fun h => e4 (by rw [str_eq s _ h])
            clear e0 e1 e2 e3 e4
            go_enter Tryz.func175, Tryz.ntmps175
            go_wp2_with fail
            go_ret
            exact ⟨_, rfl, Below.refl _ _⟩

end Go.Proofs.YtjamgkcmpcnfpaaGreatDoor

/-
  slices.EqualFunc at items and at keys.
-/
import Derived.Test.YtjamgkcmpcnfpaaGreatDoorS16
set_option linter.unusedVariables false
set_option linter.unusedSimpArgs false

namespace Go.Proofs.YtjamgkcmpcnfpaaGreatDoor
open Go.RowKit

/-- A struct is stored into a new variable; the world behind it is a letter. -/
theorem store_fresh {ops : Array Oper} {rest : List Oper} {o : Oper} {a : Act} {w : World} {Q : Exit → Act → World → Prop} (t : TypeId) (z cells : Array Value) (x y : Operand) (hgd : o.guard = none) (ho : o.op = .store t x y)
    (hx : a.eval x = .pointer (some ⟨w.heap.size, 0, none⟩)) (hy : a.eval y = .agg cells) (hi : (Tryz.prog.info? t).map (·.size) = some cells.size) (hz : z.size = cells.size) (h1 : cells.all (·.oneCell') = true)
    (h : ∀ V : World, Below w.heap.size w V → V.heap[w.heap.size]? = some (.cells cells t (0, 0)) → V.heap.size = w.heap.size + 1 → wpList Tryz.prog ops Q rest (a.put o.dst undef) V) : wpList Tryz.prog ops Q (o :: rest) a (w.alloc (.cells z t)) := by
  refine wpList_store_row hgd t x y ho w.heap.size cells hx hy t z (MapKept.heap_alloc w _).1 hi hz h1 (h _ ⟨rfl, rfl, rfl, by simp [World.setRow], fun k hk => ?_⟩ (setRow_heap _ _ _ _ _ _ (MapKept.heap_alloc w _).1) (by simp [World.setRow]))
  exact (setRow_other _ _ _ _ (by omega)).trans (Below.heap_alloc _ _ _ hk)

theorem keyV_size (op : Int) (nm tx : ByteArray) (n : Int) (sv : Value) (a b : Int) : (Tryz.prog.info? 77).map (·.size) = some (keyV op nm tx n sv a b).size := by
  rw [show (keyV op nm tx n sv a b).size = 7 from rfl]; kernel_rfl

abbrev keyZ : Array Value := keyV 0 ⟨#[]⟩ ⟨#[]⟩ 0 (.slice none 0 0) 0 0

/-- What holds ahead of a round. -/
def EqFR {α : Type} (E : α → α → Prop) (d1 d2 : RowD α) (w : World) (x : Value) (wr : World) : Prop :=
  ∃ k : Nat, k ≤ d1.n ∧ (∀ j, j < k → E (d1.f j) (d2.f j)) ∧ x = .int .i64 k ∧ Below w.heap.size w wr

set_option maxHeartbeats 16000000 in
set_option maxRecDepth 100000 in
theorem eqf_46 (v1 v2 : Value) (d1 d2 : RowD ItemD) (w : World) (h1 : IsRow w 8 IsItem v1 d1) (h2 : IsRow w 8 IsItem v2 d2) : Calls Tryz.prog 46 #[v1, v2, .func (.func 41) #[] #[]] w (EqP (RowD.Eqv ItemD.Eqv d1 d2) w) := by
  have I1 := Lib.hid h1
  have I2 := Lib.hid h2
  obtain ⟨A1, C1, rfl⟩ := h1.form
  obtain ⟨A2, C2, rfl⟩ := h2.form
  have hn1 := h1.1
  have hn2 := h2.1
  clear h1 h2
  by_cases hnn : d1.n = d2.n
  · have hn' : ((d1.n : Int) != (d2.n : Int)) = false := by simp [hnn]
    have Hnn := Lib.hid hnn
    clear hnn
    go_enter Tryz.func46, Tryz.ntmps46
    go_wp2_with fail
    go_loopw [17] (fun x wr => EqFR ItemD.Eqv d1 d2 w x wr) (fun x _ => d1.n - (intOf x).toNat)
    case atStart => exact ⟨0, by omega, fun j hj => absurd hj (by omega), rfl, Below.refl _ _⟩
    case round =>
      obtain ⟨k, hk, hall, rfl, hb⟩ := hrel
      have Hall := Lib.hid hall
      have HB := Lib.hid hb
      have hnn := Hnn.out
      clear hall
      by_cases hlt : k < d1.n
      · have hlt2 : k < d2.n := by omega
        obtain ⟨_, B1, C1', e1, hi1⟩ := I1.out.below hb (fun _ _ h => h.below hb)
        obtain ⟨_, B2, C2', e2, hi2⟩ := I2.out.below hb (fun _ _ h => h.below hb)
        simp only [Value.slice.injEq] at e1 e2
        obtain ⟨rfl, _, rfl⟩ := e1
        obtain ⟨rfl, _, rfl⟩ := e2
        obtain ⟨g1, z1, rfl, hg1, hM1, hc1⟩ := hi1 k hlt
        obtain ⟨g2, z2, rfl, hg2, hM2, hc2⟩ := hi2 k hlt2
        clear hnn hb hi1 hi2
        obtain ⟨D1, hD1⟩ : ∃ D, D = d1.f k := ⟨_, rfl⟩
        obtain ⟨D2, hD2⟩ : ∃ D, D = d2.f k := ⟨_, rfl⟩
        rw [← hD1] at hM1
        rw [← hD2] at hM2
        have hD1 := Lib.hid hD1
        have hD2 := Lib.hid hD2
        obtain ⟨pv1, nv1, rfl, RP1, RN1⟩ := hM1
        obtain ⟨k1, q1, ⟨p1, wh1, n1, c1, f1, m1⟩⟩ := D1
        simp only [] at RP1 RN1
        obtain ⟨pA1, pC1, rfl⟩ := RP1.form
        obtain ⟨nA1, nC1, rfl⟩ := RN1.form
        have M1 : IsItem wr (itC k1 q1 (.slice pA1 p1.n pC1) wh1 (.slice nA1 n1.n nC1) c1 f1 m1).toList ⟨k1, q1, ⟨p1, wh1, n1, c1, f1, m1⟩⟩ := ⟨_, _, rfl, RP1, RN1⟩
        clear RP1 RN1
        obtain ⟨pv2, nv2, rfl, RP2, RN2⟩ := hM2
        obtain ⟨k2, q2, ⟨p2, wh2, n2, c2, f2, m2⟩⟩ := D2
        simp only [] at RP2 RN2
        obtain ⟨pA2, pC2, rfl⟩ := RP2.form
        obtain ⟨nA2, nC2, rfl⟩ := RN2.form
        have M2 : IsItem wr (itC k2 q2 (.slice pA2 p2.n pC2) wh2 (.slice nA2 n2.n nC2) c2 f2 m2).toList ⟨k2, q2, ⟨p2, wh2, n2, c2, f2, m2⟩⟩ := ⟨_, _, rfl, RP2, RN2⟩
        clear RP2 RN2
        have Hc2 := Lib.hid hc2
        clear hc2
        have u0 := hc1 0 _ rfl
        have u1 := hc1 1 _ rfl
        have u2 := hc1 2 _ rfl
        have u3 := hc1 3 _ rfl
        have u4 := hc1 4 _ rfl
        have u5 := hc1 5 _ rfl
        have u6 := hc1 6 _ rfl
        have u7 := hc1 7 _ rfl
        rw [Nat.add_zero] at u0
        clear hc1
        go_wp2_with (first
          | (refine wpList_load_row rfl 59 _ rfl wr.heap.size rfl 59 _ (0, 0) _ X1.out Tryz.underlying59 rfl (itC_size _ _ _ _ _ _ _ _) ?_)
          | (refine wpList_load_row rfl 59 _ rfl V1.heap.size rfl 59 _ (0, 0) _ X2.out Tryz.underlying59 rfl (itC_size _ _ _ _ _ _ _ _) ?_)
          | (refine store_fresh (w := wr) 59 itZ (itC k1 q1 (.slice pA1 p1.n pC1) wh1 (.slice nA1 n1.n nC1) c1 f1 m1) _ _ rfl rfl rfl rfl (itC_size _ _ _ _ _ _ _ _) rfl (by simp [Value.oneCell']) ?_; intro V1 hb1 hx1 hs1; have hd2 : ∀ (j : Nat) (u : Value), (itC k2 q2 (.slice pA2 p2.n pC2) wh2 (.slice nA2 n2.n nC2) c2 f2 m2).toList[j]? = some u → V1.cell? ⟨g2, k * 8 + j, none⟩ = some u := fun j u hu => (hb1.cell (p := ⟨g2, k * 8 + j, none⟩) hg2).trans (Hc2.out j u hu); have z0 := hd2 0 _ rfl; have z1 := hd2 1 _ rfl; have z2 := hd2 2 _ rfl; have z3 := hd2 3 _ rfl; have z4 := hd2 4 _ rfl; have z5 := hd2 5 _ rfl; have z6 := hd2 6 _ rfl; have z7 := hd2 7 _ rfl; rw [Nat.add_zero] at z0; have HV1 := Lib.hid hb1; have HX1 := Lib.hid hx1; have Hs1 := Lib.hid hs1; clear hb1 hx1 hs1 hd2)
          | (refine store_fresh (w := V1) 59 itZ (itC k2 q2 (.slice pA2 p2.n pC2) wh2 (.slice nA2 n2.n nC2) c2 f2 m2) _ _ rfl rfl rfl rfl (itC_size _ _ _ _ _ _ _ _) rfl (by simp [Value.oneCell']) ?_; intro V2 hb2 hx2 hs2; have X1 := Lib.hid (blk hb2 HX1.out); have X2 := Lib.hid hx2; have HV2 := Lib.hid hb2; have Hs2 := Lib.hid hs2; clear hb2 hx2 hs2))
        have hbV : Below wr.heap.size wr V2 := HV1.out.trans (HV2.out.mono HV1.out.size)
        have HBV := Lib.hid hbV
        refine (same_41 _ _ ⟨k1, q1, ⟨p1, wh1, n1, c1, f1, m1⟩⟩ ⟨k2, q2, ⟨p2, wh2, n2, c2, f2, m2⟩⟩ V2 (M1.below hbV) (M2.below hbV)).mono ?_
        rintro e w5 ⟨r5, rfl, hr5, hb5⟩
        have HB5 := Lib.hid (HB.out.trans ((HBV.out.trans (hb5.mono HBV.out.size)).mono HB.out.size))
        have HR5 := Lib.hid hr5
        clear hr5 hb5 hbV u0 u1 u2 u3 u4 u5 u6 u7 z0 z1 z2 z3 z4 z5 z6 z7
        cases r5
        · go_wp2_with fail
          go_ret
          exact EqP.no (fun h => absurd (HR5.out.2 (by have := h.2 k hlt; rw [← hD1.out, ← hD2.out] at this; exact this)) (by decide)) HB5.out
        · go_wp2_with fail
          go_roundw
          case rel => exact ⟨k + 1, by omega, fun j hj => by
            by_cases ej : j = k
            · subst ej; rw [← hD1.out, ← hD2.out]; exact HR5.out.1 (by simp)
            · exact Hall.out j (by omega), by go_num, HB5.out⟩
          case measure => simp [intOf]; omega
      · clear hnn hb
        go_wp2_with fail
        go_ret
        exact EqP.yes ⟨Hnn.out, fun i hi => Hall.out i (by omega)⟩ HB.out
  · have hn' : ((d1.n : Int) != (d2.n : Int)) = true := by simp; omega
    go_enter Tryz.func46, Tryz.ntmps46
    go_wp2_with fail
    go_ret
    exact EqP.no (fun h => hnn h.1) (Below.refl _ w)

set_option maxHeartbeats 16000000 in
set_option maxRecDepth 100000 in
theorem eqf_47 (v1 v2 : Value) (d1 d2 : RowD KeyD) (w : World) (h1 : IsRow w 7 IsKey v1 d1) (h2 : IsRow w 7 IsKey v2 d2) : Calls Tryz.prog 47 #[v1, v2, .func (.func 43) #[] #[]] w (EqP (RowD.Eqv KeyD.Eqv d1 d2) w) := by
  have I1 := Lib.hid h1
  have I2 := Lib.hid h2
  obtain ⟨A1, C1, rfl⟩ := h1.form
  obtain ⟨A2, C2, rfl⟩ := h2.form
  have hn1 := h1.1
  have hn2 := h2.1
  clear h1 h2
  by_cases hnn : d1.n = d2.n
  · have hn' : ((d1.n : Int) != (d2.n : Int)) = false := by simp [hnn]
    have Hnn := Lib.hid hnn
    clear hnn
    go_enter Tryz.func47, Tryz.ntmps47
    go_wp2_with fail
    go_loopw [17] (fun x wr => EqFR KeyD.Eqv d1 d2 w x wr) (fun x _ => d1.n - (intOf x).toNat)
    case atStart => exact ⟨0, by omega, fun j hj => absurd hj (by omega), rfl, Below.refl _ _⟩
    case round =>
      obtain ⟨k, hk, hall, rfl, hb⟩ := hrel
      have Hall := Lib.hid hall
      have HB := Lib.hid hb
      have hnn := Hnn.out
      clear hall
      by_cases hlt : k < d1.n
      · have hlt2 : k < d2.n := by omega
        obtain ⟨_, B1, C1', e1, hi1⟩ := I1.out.below hb (fun _ _ h => h.below hb)
        obtain ⟨_, B2, C2', e2, hi2⟩ := I2.out.below hb (fun _ _ h => h.below hb)
        simp only [Value.slice.injEq] at e1 e2
        obtain ⟨rfl, _, rfl⟩ := e1
        obtain ⟨rfl, _, rfl⟩ := e2
        obtain ⟨g1, z1, rfl, hg1, hM1, hc1⟩ := hi1 k hlt
        obtain ⟨g2, z2, rfl, hg2, hM2, hc2⟩ := hi2 k hlt2
        clear hnn hb hi1 hi2
        obtain ⟨D1, hD1⟩ : ∃ D, D = d1.f k := ⟨_, rfl⟩
        obtain ⟨D2, hD2⟩ : ∃ D, D = d2.f k := ⟨_, rfl⟩
        rw [← hD1] at hM1
        rw [← hD2] at hM2
        have hD1 := Lib.hid hD1
        have hD2 := Lib.hid hD2
        obtain ⟨sv1, rfl, RS1⟩ := hM1
        obtain ⟨o1, a1, t1, k1, s1, x1, y1⟩ := D1
        simp only [] at RS1
        obtain ⟨sA1, sC1, rfl⟩ := RS1.form
        have M1 : IsKey wr (keyV o1 a1 t1 k1 (.slice sA1 s1.n sC1) x1 y1).toList ⟨o1, a1, t1, k1, s1, x1, y1⟩ := ⟨_, rfl, RS1⟩
        clear RS1
        obtain ⟨sv2, rfl, RS2⟩ := hM2
        obtain ⟨o2, a2, t2, k2, s2, x2, y2⟩ := D2
        simp only [] at RS2
        obtain ⟨sA2, sC2, rfl⟩ := RS2.form
        have M2 : IsKey wr (keyV o2 a2 t2 k2 (.slice sA2 s2.n sC2) x2 y2).toList ⟨o2, a2, t2, k2, s2, x2, y2⟩ := ⟨_, rfl, RS2⟩
        clear RS2
        have Hc2 := Lib.hid hc2
        clear hc2
        have u0 := hc1 0 _ rfl
        have u1 := hc1 1 _ rfl
        have u2 := hc1 2 _ rfl
        have u3 := hc1 3 _ rfl
        have u4 := hc1 4 _ rfl
        have u5 := hc1 5 _ rfl
        have u6 := hc1 6 _ rfl
        rw [Nat.add_zero] at u0
        clear hc1
        go_wp2_with (first
          | (refine wpList_load_row rfl 77 _ rfl wr.heap.size rfl 77 _ (0, 0) _ X1.out Tryz.underlying77 rfl (keyV_size _ _ _ _ _ _ _) ?_)
          | (refine wpList_load_row rfl 77 _ rfl V1.heap.size rfl 77 _ (0, 0) _ X2.out Tryz.underlying77 rfl (keyV_size _ _ _ _ _ _ _) ?_)
          | (refine store_fresh (w := wr) 77 keyZ (keyV o1 a1 t1 k1 (.slice sA1 s1.n sC1) x1 y1) _ _ rfl rfl rfl rfl (keyV_size _ _ _ _ _ _ _) rfl (by simp [Value.oneCell']) ?_; intro V1 hb1 hx1 hs1; have hd2 : ∀ (j : Nat) (u : Value), (keyV o2 a2 t2 k2 (.slice sA2 s2.n sC2) x2 y2).toList[j]? = some u → V1.cell? ⟨g2, k * 7 + j, none⟩ = some u := fun j u hu => (hb1.cell (p := ⟨g2, k * 7 + j, none⟩) hg2).trans (Hc2.out j u hu); have z0 := hd2 0 _ rfl; have z1 := hd2 1 _ rfl; have z2 := hd2 2 _ rfl; have z3 := hd2 3 _ rfl; have z4 := hd2 4 _ rfl; have z5 := hd2 5 _ rfl; have z6 := hd2 6 _ rfl; rw [Nat.add_zero] at z0; have HV1 := Lib.hid hb1; have HX1 := Lib.hid hx1; have Hs1 := Lib.hid hs1; clear hb1 hx1 hs1 hd2)
          | (refine store_fresh (w := V1) 77 keyZ (keyV o2 a2 t2 k2 (.slice sA2 s2.n sC2) x2 y2) _ _ rfl rfl rfl rfl (keyV_size _ _ _ _ _ _ _) rfl (by simp [Value.oneCell']) ?_; intro V2 hb2 hx2 hs2; have X1 := Lib.hid (blk hb2 HX1.out); have X2 := Lib.hid hx2; have HV2 := Lib.hid hb2; have Hs2 := Lib.hid hs2; clear hb2 hx2 hs2))
        have hbV : Below wr.heap.size wr V2 := HV1.out.trans (HV2.out.mono HV1.out.size)
        have HBV := Lib.hid hbV
        refine (same_43 _ _ ⟨o1, a1, t1, k1, s1, x1, y1⟩ ⟨o2, a2, t2, k2, s2, x2, y2⟩ V2 (M1.below hbV) (M2.below hbV)).mono ?_
        rintro e w5 ⟨r5, rfl, hr5, hb5⟩
        have HB5 := Lib.hid (HB.out.trans ((HBV.out.trans (hb5.mono HBV.out.size)).mono HB.out.size))
        have HR5 := Lib.hid hr5
        clear hr5 hb5 hbV u0 u1 u2 u3 u4 u5 u6 z0 z1 z2 z3 z4 z5 z6
        cases r5
        · go_wp2_with fail
          go_ret
          exact EqP.no (fun h => absurd (HR5.out.2 (by have := h.2 k hlt; rw [← hD1.out, ← hD2.out] at this; exact this)) (by decide)) HB5.out
        · go_wp2_with fail
          go_roundw
          case rel => exact ⟨k + 1, by omega, fun j hj => by
            by_cases ej : j = k
            · subst ej; rw [← hD1.out, ← hD2.out]; exact HR5.out.1 (by simp)
            · exact Hall.out j (by omega), by go_num, HB5.out⟩
          case measure => simp [intOf]; omega
      · clear hnn hb
        go_wp2_with fail
        go_ret
        exact EqP.yes ⟨Hnn.out, fun i hi => Hall.out i (by omega)⟩ HB.out
  · have hn' : ((d1.n : Int) != (d2.n : Int)) = true := by simp; omega
    go_enter Tryz.func47, Tryz.ntmps47
    go_wp2_with fail
    go_ret
    exact EqP.no (fun h => hnn h.1) (Below.refl _ w)

end Go.Proofs.YtjamgkcmpcnfpaaGreatDoor

/-
  The cursor's 'key', at one depth out of the next.
-/
import Derived.Test.YtjamgkcmpcnfpaaGreatDoorS14
import Derived.Test.YtjamgkcmpcnfpaaGreatDoorS23
set_option linter.unusedVariables false
set_option linter.unusedSimpArgs false

namespace Go.Proofs.YtjamgkcmpcnfpaaGreatDoor
open Go.RowKit

/-- Where the cursor stands, on the way from w, with its keys. -/
structure KSt (g : Nat) (S : Src) (r : Nat) (bad : Bool) (w : World) (i a : Nat) (b : Bool) (kv : Value) (W : World) : Prop where
  cur : Cur g S W i a b kv
  keys : Keys g kv W
  kk : KKept g w W
  le : left S i a ≤ r
  bad : bad = true → b = true

theorem KSt.start {g : Nat} {S : Src} {w : World} {i a : Nat} {b : Bool} {kv : Value} (h : Cur g S w i a b kv) (hk : Keys g kv w) : KSt g S (left S i a) b w i a b kv w :=
  ⟨h, hk, KKept.refl g w, Nat.le_refl _, id⟩

variable {g : Nat} {S : Src} {r i a i2 a2 : Nat} {bad b b2 : Bool} {kv : Value} {w w1 w2 : World} {e : Ending}

theorem KSt.kept (h : KSt g S r bad w i a b kv w1) (hC : Cur g S w2 i2 a2 b2 kv) (hK : Kept g w1 w2) (hl : left S i2 a2 ≤ left S i a) (hb : b = true → b2 = true) : KSt g S r bad w i2 a2 b2 kv w2 :=
  ⟨hC, h.keys.keep hK, h.kk.trans hK.kk, Nat.le_trans hl h.le, fun x => hb (h.bad x)⟩

theorem KSt.moved (h : KSt g S r bad w i a b kv w1) (hM : Moves g S kv (left S i a) b w1 w2) : ∃ i2 a2 b2, KSt g S r bad w i2 a2 b2 kv w2 ∧ (b = true → b2 = true) := by
  obtain ⟨i2, a2, b2, hC, hK, hl, hb⟩ := hM
  exact ⟨i2, a2, b2, h.kept hC hK hl hb, hb⟩

theorem KSt.eaten (h : KSt g S r bad w i a b kv w1) (hM : Eats g S kv (left S i a) b w1 w2) : ∃ i2 a2 b2, KSt g S r bad w i2 a2 b2 kv w2 ∧ (b = true → b2 = true) := by
  obtain ⟨i2, a2, b2, hC, hK, hl, _, hb⟩ := hM
  exact ⟨i2, a2, b2, h.kept hC hK hl hb, hb⟩

theorem KSt.kmoved (h : KSt g S r bad w i a b kv w1) (hM : KMoves g S (left S i a) b w1 w2) : ∃ i2 a2 b2 kv2, KSt g S r bad w i2 a2 b2 kv2 w2 ∧ (b = true → b2 = true) := by
  obtain ⟨i2, a2, b2, kv2, hC, hk, hK, hl, hb⟩ := hM
  exact ⟨i2, a2, b2, kv2, ⟨hC, hk, h.kk.trans hK, Nat.le_trans hl h.le, fun x => hb (h.bad x)⟩, hb⟩

theorem KSt.below (h : KSt g S r bad w i a b kv w1) (hB : Below w1.heap.size w1 w2) : KSt g S r bad w i a b kv w2 :=
  h.kept (h.cur.step hB) ((Kept.refl g w1).andBelow hB (Nat.le_refl _)) (Nat.le_refl _) id

theorem KSt.drewN (h : KSt g S r bad w i a b kv w1) (m : Nat) : KSt g S r bad w i a b kv (w1.drewN m) :=
  h.kept (h.cur.drewN m) ((Kept.refl g w1).drewN m) (Nat.le_refl _) id

theorem KSt.done (h : KSt g S r bad w i a b kv w1) (n : Int) : KInt g S r bad w (.returned (.int .i64 n)) w1 :=
  ⟨n, rfl, i, a, b, kv, h.cur, h.keys, h.kk, h.le, h.bad⟩

theorem KSt.ret (h : KSt g S r bad w i a b kv w1) (hM : KInt g S (left S i a) b w1 e w2) : KInt g S r bad w e w2 := hM.step h.kk h.le h.bad

/-- A store into a block of a key's cells that is no row of the keys. -/
theorem KSt.other {x : Nat} {cs : Array Value} {fr : Nat × Nat} (h : KSt g S r bad w i a b kv w1) (hX : w1.heap[x]? = some (.cells cs 77 fr)) (hx : g < x) (hsg : S.b < g) (hw : w.heap.size ≤ x) (hkv : ∀ k, kv.ownBlock = some k → k ≠ x) (j : Nat) (u : Value) :
    KSt g S r bad w i a b kv (w1.setCell ⟨x, j, none⟩ u) := by
  have hne : ∀ k, k ≠ x → (w1.setCell ⟨x, j, none⟩ u).heap[k]? = w1.heap[k]? := fun k hk => Below.heap_setCell w1 ⟨x, j, none⟩ u k hk
  have hsz : (w1.setCell ⟨x, j, none⟩ u).heap.size = w1.heap.size := by simp [World.setCell]
  have hK : KKept g w1 (w1.setCell ⟨x, j, none⟩ u) := ⟨rfl, rfl, rfl, by omega, fun k hk hg ht => by
    by_cases hkx : k = x
    · subst hkx
      rcases ht with ht | ht
      · omega
      · exact absurd hX (ht cs fr)
    · exact hne k hkx⟩
  obtain ⟨n, hn, hR⟩ := h.keys
  refine ⟨h.cur.other (p := ⟨x, j, none⟩) (by show x ≠ g; omega) (by show x ≠ S.b; omega) u, ⟨n, hn, (hR.mono fun y _ hy => hy.kk hK).kept fun k hk => hne k (hkv k hk)⟩, ?_, h.le, h.bad⟩
  exact ⟨h.kk.os, h.kk.tape, h.kk.output, by have := h.kk.size; omega, fun k hk hg ht => (hne k (by omega)).trans (h.kk.block k hk hg ht)⟩

/-- The world under a letter, ahead of a call. -/
theorem gen_calls {Q : World → Prop} {P : Program} {f : FuncId} {args : Array Value} {R : Ending → World → Prop} {W : World} (h : Q W) (k : ∀ W1, Q W1 → Calls P f args W1 R) : Calls P f args W R := k W h

set_option maxHeartbeats 16000000 in
set_option maxRecDepth 100000 in
theorem key_step (g : Nat) (S : Src) (hsg : S.b < g) (deep : Int) (hd : 0 ≤ deep ∧ deep ≤ 1000) (hNext : deep ≤ 8 → KeyAt g S (deep + 1)) : KeyAt g S deep := by
  intro i a bad kv w hC0 hk0
  have H0 := Lib.hid (KSt.start hC0 hk0)
  generalize hr : left S i a = r at H0 ⊢
  clear hr
  clear hC0 hk0
  have HN := Lib.hid hNext
  have Hd := Lib.hid hd
  clear hNext hd
  go_enter Tryz.func133, Tryz.ntmps133
  go_wp2_with fail
  refine (fail_any g S i a bad _ kv _ H0.out.cur).mono ?_
  rintro e w1 ⟨rfl, hC1, hK1⟩
  have H1 := Lib.hid (H0.out.kept hC1 hK1 (Nat.le_refl _) (fun h => by rw [h]; rfl))
  generalize hb1 : (bad || decide (8 < deep)) = bad1 at H1
  have HB1 : Hid (bad1 = false → deep ≤ 8) := Lib.hid (by
    rintro rfl
    have := (Bool.or_eq_false_iff.mp hb1).2
    simpa using this)
  clear hb1 hC1 hK1

  go_wp2_with fail
  refine (if1_any g S i a bad1 kv _ _ H1.out.cur).mono ?_
  rintro e w2 ⟨v, rfl, hM2, hv⟩
  cases v
  · obtain ⟨i2, a2, bad2, h2, hb2⟩ := H1.out.moved hM2
    have H2 := Lib.hid h2
    have HB2 : Hid (bad2 = false → deep ≤ 8) := Lib.hid (fun h => HB1.out (by cases bad1; rfl; exact absurd (hb2 rfl) (by simp [h])))
    clear h2 hb2 hM2 hv
    go_wp2_with fail
    refine (peek_any g S i2 a2 bad2 kv w2 H2.out.cur).mono ?_
    rintro e w3 ⟨rfl, m3, rfl⟩
    have H3 := Lib.hid (H2.out.drewN m3)
    clear H2
    generalize w2.drewN m3 = w3 at *
    generalize peekV S i2 a2 bad2 = p
    clear H1 HB1 H0
    go_wp2_with fail
    all_goals try (
      refine (set24 g S i2 a2 bad2 kv w3 (KSt.cur (Hid.out H3))).mono ?_
      rintro e w4 ⟨sv, m, rfl, hm, hR, hM⟩
      obtain ⟨i4, a4, bad4, h4, hb4⟩ := H3.out.moved hM
      obtain ⟨sA, sN, sC, rfl⟩ : ∃ A N C, sv = .slice A N C := by
        rcases hR.slice with ⟨rfl, _⟩ | ⟨b, c, rfl⟩
        · exact ⟨_, _, _, rfl⟩
        · exact ⟨_, _, _, rfl⟩
      have hR' := hR.base (B' := g + 1) (by have := H3.out.cur.lt; omega)
      have H4 := Lib.hid h4
      have HR := Lib.hid hR'
      clear hR hM h4 hb4 hR'
      go_wp2_with fail
      refine (put24 g S i4 a4 bad4 kv w4 H4.out.cur hsg H4.out.keys 14 ⟨#[]⟩ ⟨#[]⟩ 0 (.slice sA sN sC) 0 0 m hm HR.out).mono ?_
      rintro e wz hz
      obtain ⟨nz, rfl, hM⟩ := KSt.ret (Hid.out H4) hz
      have HM := Lib.hid hM
      clear hM hz
      go_wp2_with fail
      go_ret
      exact ⟨nz, rfl, HM.out⟩)
    all_goals (
      refine (name24 g S i2 a2 bad2 kv ⟨#[]⟩ w3 (KSt.cur (Hid.out H3)) (by decide)).mono ?_
      rintro e w4 ⟨s, rfl, hs, hM, he⟩
      obtain ⟨i4, a4, bad4, h4, hb4⟩ := H3.out.moved hM
      have H4 := Lib.hid h4
      have HD : Hid (s ≠ ⟨#[]⟩ → deep ≤ 8) := Lib.hid (fun h => HB2.out (by cases bad2; rfl; exact absurd (he rfl) h))
      clear h4 hb4 hM he H3 HB2
      go_wp2_with fail
      refine (flagged24 s w4).mono ?_
      rintro e w5 ⟨v, rfl, hB⟩
      have H5 := Lib.hid (H4.out.below hB)
      clear hB H4
      cases hv : decide (0 < v)
      · cases hl : decide (2 < (s.size : Int))
        · by_cases t : (s.toList == [97, 108, 108]) = true
          · go_wp2_with fail
            refine (put_plain _ _ _ _ _ _ _ (KSt.cur (Hid.out H5)) hsg (KSt.keys (Hid.out H5)) 0 ⟨#[]⟩ ⟨#[]⟩ 0 0 0).mono ?_
            rintro e wz hz
            obtain ⟨nz, rfl, hM⟩ := KSt.ret (Hid.out H5) hz
            have HM := Lib.hid hM
            clear hM hz
            go_wp2_with fail
            go_ret
            exact ⟨nz, rfl, HM.out⟩
          rw [Bool.not_eq_true] at t
          have t1 := t
          clear t
          by_cases t : (s.toList == [111, 108, 100]) = true
          · go_wp2_with fail
            refine (put_plain _ _ _ _ _ _ _ (KSt.cur (Hid.out H5)) hsg (KSt.keys (Hid.out H5)) 0 ⟨#[]⟩ ⟨#[]⟩ 0 0 0).mono ?_
            rintro e wz hz
            obtain ⟨nz, rfl, hM⟩ := KSt.ret (Hid.out H5) hz
            have HM := Lib.hid hM
            clear hM hz
            go_wp2_with fail
            go_ret
            exact ⟨nz, rfl, HM.out⟩
          rw [Bool.not_eq_true] at t
          have t2 := t
          clear t
          by_cases t : (s.toList == [110, 101, 119]) = true
          · go_wp2_with fail
            refine (none24 g S i4 a4 bad4 kv w5 H5.out.cur hsg H5.out.keys).mono ?_
            rintro e wz hz
            obtain ⟨nz, rfl, hM⟩ := KSt.ret (Hid.out H5) hz
            have HM := Lib.hid hM
            clear hM hz
            go_wp2_with fail
            go_ret
            exact ⟨nz, rfl, HM.out⟩
          rw [Bool.not_eq_true] at t
          have t3 := t
          clear t
          by_cases t : (s.toList == [114, 101, 99, 101, 110, 116]) = true
          · go_wp2_with fail
            refine (none24 g S i4 a4 bad4 kv w5 H5.out.cur hsg H5.out.keys).mono ?_
            rintro e wz hz
            obtain ⟨nz, rfl, hM⟩ := KSt.ret (Hid.out H5) hz
            have HM := Lib.hid hM
            clear hM hz
            go_wp2_with fail
            go_ret
            exact ⟨nz, rfl, HM.out⟩
          rw [Bool.not_eq_true] at t
          have t4 := t
          clear t
          by_cases t : (s.toList == [107, 101, 121, 119, 111, 114, 100]) = true
          · go_wp2_with fail
            refine (eat_any g S i4 a4 bad4 kv 32 w5 H5.out.cur).mono ?_
            rintro e w6 ⟨rfl, hM⟩
            obtain ⟨i6, a6, bad6, h6, hb6⟩ := H5.out.eaten hM
            have H6 := Lib.hid h6
            clear h6 hb6 hM
            go_wp2_with fail
            refine (word24 g S i6 a6 bad6 kv ⟨#[]⟩ w6 H6.out.cur (by decide)).mono ?_
            rintro e w7 ⟨s7, rfl, hs7, hM⟩
            obtain ⟨i7, a7, bad7, h7, hb7⟩ := H6.out.moved hM
            have H7 := Lib.hid h7
            clear h7 hb7 hM
            go_wp2_with fail
            refine (none24 g S i7 a7 bad7 kv w7 H7.out.cur hsg H7.out.keys).mono ?_
            rintro e wz hz
            obtain ⟨nz, rfl, hM⟩ := KSt.ret (Hid.out H7) hz
            have HM := Lib.hid hM
            clear hM hz
            go_wp2_with fail
            go_ret
            exact ⟨nz, rfl, HM.out⟩
          rw [Bool.not_eq_true] at t
          have t5 := t
          clear t
          by_cases t : (s.toList == [117, 110, 107, 101, 121, 119, 111, 114, 100]) = true
          · go_wp2_with fail
            refine (eat_any g S i4 a4 bad4 kv 32 w5 H5.out.cur).mono ?_
            rintro e w6 ⟨rfl, hM⟩
            obtain ⟨i6, a6, bad6, h6, hb6⟩ := H5.out.eaten hM
            have H6 := Lib.hid h6
            clear h6 hb6 hM
            go_wp2_with fail
            refine (word24 g S i6 a6 bad6 kv ⟨#[]⟩ w6 H6.out.cur (by decide)).mono ?_
            rintro e w7 ⟨s7, rfl, hs7, hM⟩
            obtain ⟨i7, a7, bad7, h7, hb7⟩ := H6.out.moved hM
            have H7 := Lib.hid h7
            clear h7 hb7 hM
            go_wp2_with fail
            refine (put_plain _ _ _ _ _ _ _ (KSt.cur (Hid.out H7)) hsg (KSt.keys (Hid.out H7)) 0 ⟨#[]⟩ ⟨#[]⟩ 0 0 0).mono ?_
            rintro e wz hz
            obtain ⟨nz, rfl, hM⟩ := KSt.ret (Hid.out H7) hz
            have HM := Lib.hid hM
            clear hM hz
            go_wp2_with fail
            go_ret
            exact ⟨nz, rfl, HM.out⟩
          rw [Bool.not_eq_true] at t
          have t6 := t
          clear t
          by_cases t : (s.toList == [110, 111, 116]) = true
          · have h8 : deep ≤ 8 := HD.out (by rintro rfl; rw [Lib.toList_data] at t; exact absurd t (by decide))
            go_wp2_with fail
            refine (eat_any g S i4 a4 bad4 kv 32 w5 H5.out.cur).mono ?_
            rintro e w6 ⟨rfl, hM⟩
            obtain ⟨i6, a6, bad6, h6, hb6⟩ := H5.out.eaten hM
            have H6 := Lib.hid h6
            clear h6 hb6 hM
            obtain ⟨hd1, hd2⟩ := Hd.out
            go_wp2_with fail
            refine (HN.out h8 i6 a6 bad6 kv w6 H6.out.cur H6.out.keys).mono ?_
            rintro e w7 ⟨n7, rfl, hM⟩
            obtain ⟨i7, a7, bad7, kv7, h7, hb7⟩ := H6.out.kmoved hM
            have H7 := Lib.hid h7
            clear hd1 hd2 h7 hb7 hM
            go_wp2_with fail
            refine (put_plain _ _ _ _ _ _ _ (KSt.cur (Hid.out H7)) hsg (KSt.keys (Hid.out H7)) 16 ⟨#[]⟩ ⟨#[]⟩ 0 n7 0).mono ?_
            rintro e wz hz
            obtain ⟨nz, rfl, hM⟩ := KSt.ret (Hid.out H7) hz
            have HM := Lib.hid hM
            clear hM hz
            go_wp2_with fail
            go_ret
            exact ⟨nz, rfl, HM.out⟩
          rw [Bool.not_eq_true] at t
          have t7 := t
          clear t
          by_cases t : (s.toList == [111, 114]) = true
          · have h8 : deep ≤ 8 := HD.out (by rintro rfl; rw [Lib.toList_data] at t; exact absurd t (by decide))
            go_wp2_with fail
            refine (eat_any g S i4 a4 bad4 kv 32 w5 H5.out.cur).mono ?_
            rintro e w6 ⟨rfl, hM⟩
            obtain ⟨i6, a6, bad6, h6, hb6⟩ := H5.out.eaten hM
            have H6 := Lib.hid h6
            clear h6 hb6 hM
            obtain ⟨hd1, hd2⟩ := Hd.out
            go_wp2_with fail
            refine (HN.out h8 i6 a6 bad6 kv w6 H6.out.cur H6.out.keys).mono ?_
            rintro e w7 ⟨n7, rfl, hM⟩
            obtain ⟨i7, a7, bad7, kv7, h7, hb7⟩ := H6.out.kmoved hM
            have H7 := Lib.hid h7
            clear hd1 hd2 h7 hb7 hM
            go_wp2_with fail
            refine (eat_any g S i7 a7 bad7 kv7 32 w7 H7.out.cur).mono ?_
            rintro e w8 ⟨rfl, hM⟩
            obtain ⟨i8, a8, bad8, h8, hb8⟩ := H7.out.eaten hM
            have H8 := Lib.hid h8
            clear h8 hb8 hM
            obtain ⟨hd1, hd2⟩ := Hd.out
            go_wp2_with fail
            refine (HN.out h8 i8 a8 bad8 kv7 w8 H8.out.cur H8.out.keys).mono ?_
            rintro e w9 ⟨n9, rfl, hM⟩
            obtain ⟨i9, a9, bad9, kv9, h9, hb9⟩ := H8.out.kmoved hM
            have H9 := Lib.hid h9
            clear hd1 hd2 h9 hb9 hM
            go_wp2_with fail
            refine (put_plain _ _ _ _ _ _ _ (KSt.cur (Hid.out H9)) hsg (KSt.keys (Hid.out H9)) 17 ⟨#[]⟩ ⟨#[]⟩ 0 n7 n9).mono ?_
            rintro e wz hz
            obtain ⟨nz, rfl, hM⟩ := KSt.ret (Hid.out H9) hz
            have HM := Lib.hid hM
            clear hM hz
            go_wp2_with fail
            go_ret
            exact ⟨nz, rfl, HM.out⟩
          rw [Bool.not_eq_true] at t
          have t8 := t
          clear t
          go_wp2_with fail
          refine (eat_any g S i4 a4 bad4 kv 32 w5 H5.out.cur).mono ?_
          rintro e w6 ⟨rfl, hM⟩
          obtain ⟨i6, a6, bad6, h6, hb6⟩ := H5.out.eaten hM
          have H6 := Lib.hid h6
          clear h6 hb6 hM
          go_wp2_with fail
          refine (dated24 s w6).mono ?_
          rintro e w7 ⟨d, rfl, hB⟩
          have H7 := Lib.hid (H6.out.below hB)
          clear hB H6
          cases hd : decide (0 < d)
          · go_wp2_with fail
            refine (headed24 s w7).mono ?_
            rintro e w8 ⟨hd1, rfl, hB⟩
            have H8 := Lib.hid (H7.out.below hB)
            clear hB H7
            by_cases t0 : (hd1.toList == []) = true
            · by_cases t : (s.toList == [98, 111, 100, 121]) = true
              · go_wp2_with fail
                refine (short24 g S i6 a6 bad6 kv 200 w8 H8.out.cur).mono ?_
                rintro e w9 ⟨s9, rfl, hs9, hM⟩
                obtain ⟨i9, a9, bad9, h9, hb9⟩ := H8.out.moved hM
                have H9 := Lib.hid h9
                clear h9 hb9 hM
                go_wp2_with fail
                refine (put_plain _ _ _ _ _ _ _ (KSt.cur (Hid.out H9)) hsg (KSt.keys (Hid.out H9)) 10 ⟨#[]⟩ s9 0 0 0).mono ?_
                rintro e wz hz
                obtain ⟨nz, rfl, hM⟩ := KSt.ret (Hid.out H9) hz
                have HM := Lib.hid hM
                clear hM hz
                go_wp2_with fail
                go_ret
                exact ⟨nz, rfl, HM.out⟩
              rw [Bool.not_eq_true] at t
              have t21 := t
              clear t
              by_cases t : (s.toList == [116, 101, 120, 116]) = true
              · go_wp2_with fail
                refine (short24 g S i6 a6 bad6 kv 200 w8 H8.out.cur).mono ?_
                rintro e w9 ⟨s9, rfl, hs9, hM⟩
                obtain ⟨i9, a9, bad9, h9, hb9⟩ := H8.out.moved hM
                have H9 := Lib.hid h9
                clear h9 hb9 hM
                go_wp2_with fail
                refine (put_plain _ _ _ _ _ _ _ (KSt.cur (Hid.out H9)) hsg (KSt.keys (Hid.out H9)) 11 ⟨#[]⟩ s9 0 0 0).mono ?_
                rintro e wz hz
                obtain ⟨nz, rfl, hM⟩ := KSt.ret (Hid.out H9) hz
                have HM := Lib.hid hM
                clear hM hz
                go_wp2_with fail
                go_ret
                exact ⟨nz, rfl, HM.out⟩
              rw [Bool.not_eq_true] at t
              have t22 := t
              clear t
              by_cases t : (s.toList == [104, 101, 97, 100, 101, 114]) = true
              · go_wp2_with fail
                refine (short24 g S i6 a6 bad6 kv 200 w8 H8.out.cur).mono ?_
                rintro e w9 ⟨s9, rfl, hs9, hM⟩
                obtain ⟨i9, a9, bad9, h9, hb9⟩ := H8.out.moved hM
                have H9 := Lib.hid h9
                clear h9 hb9 hM
                go_wp2_with fail
                have hkvlt : ∀ k, kv.ownBlock = some k → k < w9.heap.size := by
                  obtain ⟨nn, _, hR⟩ := H9.out.keys
                  exact fun k hk => (hR.lt k hk).2
                refine gen_calls (Q := fun W => W.heap[w9.heap.size]? = some (.cells (keyC 9 s9 ⟨#[]⟩ 0 (.slice none 0 0) 0 0) 77 (0, 0)) ∧ KSt g S r bad w i9 a9 bad9 kv W) ⟨(MapKept.heap_alloc w9 _).1, H9.out.below ((Below.refl _ w9).alloc (Nat.le_refl _) _)⟩ ?_
                rintro w10 ⟨hX, h10⟩
                have hxg : g < w9.heap.size := H9.out.cur.lt
                have hxw : w.heap.size ≤ w9.heap.size := H9.out.kk.size
                have HKV := Lib.hid hkvlt
                have H10 := Lib.hid h10
                have HX := Lib.hid hX
                clear h10 hX H9 hkvlt
                generalize w9.heap.size = x at *
                refine (eat_any g S i9 a9 bad9 kv 32 w10 H10.out.cur).mono ?_
                rintro e w11 ⟨rfl, hM⟩
                have hX11 : w11.heap[x]? = some (.cells (keyC 9 s9 ⟨#[]⟩ 0 (.slice none 0 0) 0 0) 77 (0, 0)) := by
                  obtain ⟨_, _, _, _, hK, _⟩ := hM
                  exact (hK.block x (Array.getElem?_eq_some_iff.1 HX.out).1 (by omega)).trans HX.out
                obtain ⟨i11, a11, bad11, h11, hb11⟩ := H10.out.eaten hM
                have H11 := Lib.hid h11
                have HX11 := Lib.hid hX11
                clear h11 hb11 hM hX11 HX H10
                go_wp2_with fail
                refine (short24 g S i11 a11 bad11 kv 200 w11 H11.out.cur).mono ?_
                rintro e w12 ⟨s12, rfl, hs12, hM⟩
                have hX12 : w12.heap[x]? = some (.cells (keyC 9 s9 ⟨#[]⟩ 0 (.slice none 0 0) 0 0) 77 (0, 0)) := by
                  obtain ⟨_, _, _, _, hK, _⟩ := hM
                  exact (hK.block x (Array.getElem?_eq_some_iff.1 HX11.out).1 (by omega)).trans HX11.out
                obtain ⟨i12, a12, bad12, h12, hb12⟩ := H11.out.moved hM
                have z0 := cell_hp hX12 (j := 0) (v := .int .i64 9) rfl
                have z1 := cell_hp hX12 (j := 1) (v := .string s9) rfl
                have z2 := cell_hp hX12 (j := 2) (v := .string ⟨#[]⟩) rfl
                have z3 := cell_hp hX12 (j := 3) (v := .int .i64 0) rfl
                have z4 := cell_hp hX12 (j := 4) (v := .slice none 0 0) rfl
                have z5 := cell_hp hX12 (j := 5) (v := .int .i64 0) rfl
                have z6 := cell_hp hX12 (j := 6) (v := .int .i64 0) rfl
                have y2 : w12.frozen? ⟨x, 2, none⟩ = false := Lib.frozen_of_heap hX12 2
                have h13 := h12.other hX12 hxg hsg hxw (fun k hk => Nat.ne_of_lt (HKV.out k hk)) 2 (.string s12)
                have H13 := Lib.hid h13
                clear h13 h12 hb12 hM HX11 H11 hX12
                go_wp2_with fail
                refine (put_plain _ _ _ _ _ _ _ (KSt.cur (Hid.out H13)) hsg (KSt.keys (Hid.out H13)) 9 s9 s12 0 0 0).mono ?_
                rintro e wz hz
                obtain ⟨nz, rfl, hM⟩ := KSt.ret (Hid.out H13) hz
                have HM := Lib.hid hM
                clear hM hz
                go_wp2_with fail
                go_ret
                exact ⟨nz, rfl, HM.out⟩
              rw [Bool.not_eq_true] at t
              have t23 := t
              clear t
              by_cases t : (s.toList == [108, 97, 114, 103, 101, 114]) = true
              · go_wp2_with fail
                refine (number24 g S i6 a6 bad6 kv w8 H8.out.cur).mono ?_
                rintro e w9 ⟨n9, rfl, hM⟩
                obtain ⟨i9, a9, bad9, h9, hb9⟩ := H8.out.moved hM
                have H9 := Lib.hid h9
                clear h9 hb9 hM
                go_wp2_with fail
                refine (put_plain _ _ _ _ _ _ _ (KSt.cur (Hid.out H9)) hsg (KSt.keys (Hid.out H9)) 12 ⟨#[]⟩ ⟨#[]⟩ n9 0 0).mono ?_
                rintro e wz hz
                obtain ⟨nz, rfl, hM⟩ := KSt.ret (Hid.out H9) hz
                have HM := Lib.hid hM
                clear hM hz
                go_wp2_with fail
                go_ret
                exact ⟨nz, rfl, HM.out⟩
              rw [Bool.not_eq_true] at t
              have t24 := t
              clear t
              by_cases t : (s.toList == [115, 109, 97, 108, 108, 101, 114]) = true
              · go_wp2_with fail
                refine (number24 g S i6 a6 bad6 kv w8 H8.out.cur).mono ?_
                rintro e w9 ⟨n9, rfl, hM⟩
                obtain ⟨i9, a9, bad9, h9, hb9⟩ := H8.out.moved hM
                have H9 := Lib.hid h9
                clear h9 hb9 hM
                go_wp2_with fail
                refine (put_plain _ _ _ _ _ _ _ (KSt.cur (Hid.out H9)) hsg (KSt.keys (Hid.out H9)) 13 ⟨#[]⟩ ⟨#[]⟩ n9 0 0).mono ?_
                rintro e wz hz
                obtain ⟨nz, rfl, hM⟩ := KSt.ret (Hid.out H9) hz
                have HM := Lib.hid hM
                clear hM hz
                go_wp2_with fail
                go_ret
                exact ⟨nz, rfl, HM.out⟩
              rw [Bool.not_eq_true] at t
              have t25 := t
              clear t
              by_cases t : (s.toList == [117, 105, 100]) = true
              · go_wp2_with fail
                refine (set24 g S i6 a6 bad6 kv w8 (KSt.cur (Hid.out H8))).mono ?_
                rintro e w9 ⟨sv, m, rfl, hm, hR, hM⟩
                obtain ⟨i9, a9, bad9, h9, hb9⟩ := H8.out.moved hM
                obtain ⟨sA, sN, sC, rfl⟩ : ∃ A N C, sv = .slice A N C := by
                  rcases hR.slice with ⟨rfl, _⟩ | ⟨b, c, rfl⟩
                  · exact ⟨_, _, _, rfl⟩
                  · exact ⟨_, _, _, rfl⟩
                have hR' := hR.base (B' := g + 1) (by have := H8.out.cur.lt; omega)
                have H9 := Lib.hid h9
                have HR := Lib.hid hR'
                clear hR hM h9 hb9 hR'
                go_wp2_with fail
                refine (put24 g S i9 a9 bad9 kv w9 H9.out.cur hsg H9.out.keys 15 ⟨#[]⟩ ⟨#[]⟩ 0 (.slice sA sN sC) 0 0 m hm HR.out).mono ?_
                rintro e wz hz
                obtain ⟨nz, rfl, hM⟩ := KSt.ret (Hid.out H9) hz
                have HM := Lib.hid hM
                clear hM hz
                go_wp2_with fail
                go_ret
                exact ⟨nz, rfl, HM.out⟩
              rw [Bool.not_eq_true] at t
              have t26 := t
              clear t
              have c3 := H8.out.cur.c3
              have f3 := H8.out.cur.f3
              go_wp2_with fail
              go_ret
              exact (H8.out.kept (H8.out.cur.set3 true) ((Kept.refl g _).setg 3 _) (Nat.le_refl _) (fun _ => rfl)).done 0
            · rw [Bool.not_eq_true] at t0
              go_wp2_with fail
              refine (headed24 s w8).mono ?_
              rintro e w9 ⟨t2, rfl, hB⟩
              have H9 := Lib.hid (H8.out.below hB)
              clear hB H8
              go_wp2_with fail
              refine (short24 g S i6 a6 bad6 kv 200 w9 H9.out.cur).mono ?_
              rintro e w10 ⟨s10, rfl, hs10, hM⟩
              obtain ⟨i10, a10, bad10, h10, hb10⟩ := H9.out.moved hM
              have H10 := Lib.hid h10
              clear h10 hb10 hM
              go_wp2_with fail
              refine (put_plain _ _ _ _ _ _ _ (KSt.cur (Hid.out H10)) hsg (KSt.keys (Hid.out H10)) 9 t2 s10 0 0 0).mono ?_
              rintro e wz hz
              obtain ⟨nz, rfl, hM⟩ := KSt.ret (Hid.out H10) hz
              have HM := Lib.hid hM
              clear hM hz
              go_wp2_with fail
              go_ret
              exact ⟨nz, rfl, HM.out⟩
          · go_wp2_with fail
            refine (dated24 s w7).mono ?_
            rintro e w8 ⟨d2, rfl, hB⟩
            have H8 := Lib.hid (H7.out.below hB)
            clear hB H7
            go_wp2_with fail
            refine (day24 g S i6 a6 bad6 kv w8 H8.out.cur).mono ?_
            rintro e w9 ⟨n9, rfl, hM⟩
            obtain ⟨i9, a9, bad9, h9, hb9⟩ := H8.out.moved hM
            have H9 := Lib.hid h9
            clear h9 hb9 hM
            go_wp2_with fail
            refine (put_plain _ _ _ _ _ _ _ (KSt.cur (Hid.out H9)) hsg (KSt.keys (Hid.out H9)) d2 ⟨#[]⟩ ⟨#[]⟩ n9 0 0).mono ?_
            rintro e wz hz
            obtain ⟨nz, rfl, hM⟩ := KSt.ret (Hid.out H9) hz
            have HM := Lib.hid hM
            clear hM hz
            go_wp2_with fail
            go_ret
            exact ⟨nz, rfl, HM.out⟩
        · have hl' := of_decide_eq_true hl
          by_cases tu : ((s.extract 0 2).toList == [117, 110]) = true
          · go_wp2_with fail
            refine (flagged24 (s.extract 2 s.size) w5).mono ?_
            rintro e w5 ⟨u, rfl, hB⟩
            have H5 := Lib.hid (H5.out.below hB)
            clear hB
            cases hu : decide (0 < u)
            · by_cases t : (s.toList == [97, 108, 108]) = true
              · go_wp2_with fail
                refine (put_plain _ _ _ _ _ _ _ (KSt.cur (Hid.out H5)) hsg (KSt.keys (Hid.out H5)) 0 ⟨#[]⟩ ⟨#[]⟩ 0 0 0).mono ?_
                rintro e wz hz
                obtain ⟨nz, rfl, hM⟩ := KSt.ret (Hid.out H5) hz
                have HM := Lib.hid hM
                clear hM hz
                go_wp2_with fail
                go_ret
                exact ⟨nz, rfl, HM.out⟩
              rw [Bool.not_eq_true] at t
              have t1 := t
              clear t
              by_cases t : (s.toList == [111, 108, 100]) = true
              · go_wp2_with fail
                refine (put_plain _ _ _ _ _ _ _ (KSt.cur (Hid.out H5)) hsg (KSt.keys (Hid.out H5)) 0 ⟨#[]⟩ ⟨#[]⟩ 0 0 0).mono ?_
                rintro e wz hz
                obtain ⟨nz, rfl, hM⟩ := KSt.ret (Hid.out H5) hz
                have HM := Lib.hid hM
                clear hM hz
                go_wp2_with fail
                go_ret
                exact ⟨nz, rfl, HM.out⟩
              rw [Bool.not_eq_true] at t
              have t2 := t
              clear t
              by_cases t : (s.toList == [110, 101, 119]) = true
              · go_wp2_with fail
                refine (none24 g S i4 a4 bad4 kv w5 H5.out.cur hsg H5.out.keys).mono ?_
                rintro e wz hz
                obtain ⟨nz, rfl, hM⟩ := KSt.ret (Hid.out H5) hz
                have HM := Lib.hid hM
                clear hM hz
                go_wp2_with fail
                go_ret
                exact ⟨nz, rfl, HM.out⟩
              rw [Bool.not_eq_true] at t
              have t3 := t
              clear t
              by_cases t : (s.toList == [114, 101, 99, 101, 110, 116]) = true
              · go_wp2_with fail
                refine (none24 g S i4 a4 bad4 kv w5 H5.out.cur hsg H5.out.keys).mono ?_
                rintro e wz hz
                obtain ⟨nz, rfl, hM⟩ := KSt.ret (Hid.out H5) hz
                have HM := Lib.hid hM
                clear hM hz
                go_wp2_with fail
                go_ret
                exact ⟨nz, rfl, HM.out⟩
              rw [Bool.not_eq_true] at t
              have t4 := t
              clear t
              by_cases t : (s.toList == [107, 101, 121, 119, 111, 114, 100]) = true
              · go_wp2_with fail
                refine (eat_any g S i4 a4 bad4 kv 32 w5 H5.out.cur).mono ?_
                rintro e w6 ⟨rfl, hM⟩
                obtain ⟨i6, a6, bad6, h6, hb6⟩ := H5.out.eaten hM
                have H6 := Lib.hid h6
                clear h6 hb6 hM
                go_wp2_with fail
                refine (word24 g S i6 a6 bad6 kv ⟨#[]⟩ w6 H6.out.cur (by decide)).mono ?_
                rintro e w7 ⟨s7, rfl, hs7, hM⟩
                obtain ⟨i7, a7, bad7, h7, hb7⟩ := H6.out.moved hM
                have H7 := Lib.hid h7
                clear h7 hb7 hM
                go_wp2_with fail
                refine (none24 g S i7 a7 bad7 kv w7 H7.out.cur hsg H7.out.keys).mono ?_
                rintro e wz hz
                obtain ⟨nz, rfl, hM⟩ := KSt.ret (Hid.out H7) hz
                have HM := Lib.hid hM
                clear hM hz
                go_wp2_with fail
                go_ret
                exact ⟨nz, rfl, HM.out⟩
              rw [Bool.not_eq_true] at t
              have t5 := t
              clear t
              by_cases t : (s.toList == [117, 110, 107, 101, 121, 119, 111, 114, 100]) = true
              · go_wp2_with fail
                refine (eat_any g S i4 a4 bad4 kv 32 w5 H5.out.cur).mono ?_
                rintro e w6 ⟨rfl, hM⟩
                obtain ⟨i6, a6, bad6, h6, hb6⟩ := H5.out.eaten hM
                have H6 := Lib.hid h6
                clear h6 hb6 hM
                go_wp2_with fail
                refine (word24 g S i6 a6 bad6 kv ⟨#[]⟩ w6 H6.out.cur (by decide)).mono ?_
                rintro e w7 ⟨s7, rfl, hs7, hM⟩
                obtain ⟨i7, a7, bad7, h7, hb7⟩ := H6.out.moved hM
                have H7 := Lib.hid h7
                clear h7 hb7 hM
                go_wp2_with fail
                refine (put_plain _ _ _ _ _ _ _ (KSt.cur (Hid.out H7)) hsg (KSt.keys (Hid.out H7)) 0 ⟨#[]⟩ ⟨#[]⟩ 0 0 0).mono ?_
                rintro e wz hz
                obtain ⟨nz, rfl, hM⟩ := KSt.ret (Hid.out H7) hz
                have HM := Lib.hid hM
                clear hM hz
                go_wp2_with fail
                go_ret
                exact ⟨nz, rfl, HM.out⟩
              rw [Bool.not_eq_true] at t
              have t6 := t
              clear t
              by_cases t : (s.toList == [110, 111, 116]) = true
              · have h8 : deep ≤ 8 := HD.out (by rintro rfl; rw [Lib.toList_data] at t; exact absurd t (by decide))
                go_wp2_with fail
                refine (eat_any g S i4 a4 bad4 kv 32 w5 H5.out.cur).mono ?_
                rintro e w6 ⟨rfl, hM⟩
                obtain ⟨i6, a6, bad6, h6, hb6⟩ := H5.out.eaten hM
                have H6 := Lib.hid h6
                clear h6 hb6 hM
                obtain ⟨hd1, hd2⟩ := Hd.out
                go_wp2_with fail
                refine (HN.out h8 i6 a6 bad6 kv w6 H6.out.cur H6.out.keys).mono ?_
                rintro e w7 ⟨n7, rfl, hM⟩
                obtain ⟨i7, a7, bad7, kv7, h7, hb7⟩ := H6.out.kmoved hM
                have H7 := Lib.hid h7
                clear hd1 hd2 h7 hb7 hM
                go_wp2_with fail
                refine (put_plain _ _ _ _ _ _ _ (KSt.cur (Hid.out H7)) hsg (KSt.keys (Hid.out H7)) 16 ⟨#[]⟩ ⟨#[]⟩ 0 n7 0).mono ?_
                rintro e wz hz
                obtain ⟨nz, rfl, hM⟩ := KSt.ret (Hid.out H7) hz
                have HM := Lib.hid hM
                clear hM hz
                go_wp2_with fail
                go_ret
                exact ⟨nz, rfl, HM.out⟩
              rw [Bool.not_eq_true] at t
              have t7 := t
              clear t
              by_cases t : (s.toList == [111, 114]) = true
              · have h8 : deep ≤ 8 := HD.out (by rintro rfl; rw [Lib.toList_data] at t; exact absurd t (by decide))
                go_wp2_with fail
                refine (eat_any g S i4 a4 bad4 kv 32 w5 H5.out.cur).mono ?_
                rintro e w6 ⟨rfl, hM⟩
                obtain ⟨i6, a6, bad6, h6, hb6⟩ := H5.out.eaten hM
                have H6 := Lib.hid h6
                clear h6 hb6 hM
                obtain ⟨hd1, hd2⟩ := Hd.out
                go_wp2_with fail
                refine (HN.out h8 i6 a6 bad6 kv w6 H6.out.cur H6.out.keys).mono ?_
                rintro e w7 ⟨n7, rfl, hM⟩
                obtain ⟨i7, a7, bad7, kv7, h7, hb7⟩ := H6.out.kmoved hM
                have H7 := Lib.hid h7
                clear hd1 hd2 h7 hb7 hM
                go_wp2_with fail
                refine (eat_any g S i7 a7 bad7 kv7 32 w7 H7.out.cur).mono ?_
                rintro e w8 ⟨rfl, hM⟩
                obtain ⟨i8, a8, bad8, h8, hb8⟩ := H7.out.eaten hM
                have H8 := Lib.hid h8
                clear h8 hb8 hM
                obtain ⟨hd1, hd2⟩ := Hd.out
                go_wp2_with fail
                refine (HN.out h8 i8 a8 bad8 kv7 w8 H8.out.cur H8.out.keys).mono ?_
                rintro e w9 ⟨n9, rfl, hM⟩
                obtain ⟨i9, a9, bad9, kv9, h9, hb9⟩ := H8.out.kmoved hM
                have H9 := Lib.hid h9
                clear hd1 hd2 h9 hb9 hM
                go_wp2_with fail
                refine (put_plain _ _ _ _ _ _ _ (KSt.cur (Hid.out H9)) hsg (KSt.keys (Hid.out H9)) 17 ⟨#[]⟩ ⟨#[]⟩ 0 n7 n9).mono ?_
                rintro e wz hz
                obtain ⟨nz, rfl, hM⟩ := KSt.ret (Hid.out H9) hz
                have HM := Lib.hid hM
                clear hM hz
                go_wp2_with fail
                go_ret
                exact ⟨nz, rfl, HM.out⟩
              rw [Bool.not_eq_true] at t
              have t8 := t
              clear t
              go_wp2_with fail
              refine (eat_any g S i4 a4 bad4 kv 32 w5 H5.out.cur).mono ?_
              rintro e w6 ⟨rfl, hM⟩
              obtain ⟨i6, a6, bad6, h6, hb6⟩ := H5.out.eaten hM
              have H6 := Lib.hid h6
              clear h6 hb6 hM
              go_wp2_with fail
              refine (dated24 s w6).mono ?_
              rintro e w7 ⟨d, rfl, hB⟩
              have H7 := Lib.hid (H6.out.below hB)
              clear hB H6
              cases hd : decide (0 < d)
              · go_wp2_with fail
                refine (headed24 s w7).mono ?_
                rintro e w8 ⟨hd1, rfl, hB⟩
                have H8 := Lib.hid (H7.out.below hB)
                clear hB H7
                by_cases t0 : (hd1.toList == []) = true
                · by_cases t : (s.toList == [98, 111, 100, 121]) = true
                  · go_wp2_with fail
                    refine (short24 g S i6 a6 bad6 kv 200 w8 H8.out.cur).mono ?_
                    rintro e w9 ⟨s9, rfl, hs9, hM⟩
                    obtain ⟨i9, a9, bad9, h9, hb9⟩ := H8.out.moved hM
                    have H9 := Lib.hid h9
                    clear h9 hb9 hM
                    go_wp2_with fail
                    refine (put_plain _ _ _ _ _ _ _ (KSt.cur (Hid.out H9)) hsg (KSt.keys (Hid.out H9)) 10 ⟨#[]⟩ s9 0 0 0).mono ?_
                    rintro e wz hz
                    obtain ⟨nz, rfl, hM⟩ := KSt.ret (Hid.out H9) hz
                    have HM := Lib.hid hM
                    clear hM hz
                    go_wp2_with fail
                    go_ret
                    exact ⟨nz, rfl, HM.out⟩
                  rw [Bool.not_eq_true] at t
                  have t21 := t
                  clear t
                  by_cases t : (s.toList == [116, 101, 120, 116]) = true
                  · go_wp2_with fail
                    refine (short24 g S i6 a6 bad6 kv 200 w8 H8.out.cur).mono ?_
                    rintro e w9 ⟨s9, rfl, hs9, hM⟩
                    obtain ⟨i9, a9, bad9, h9, hb9⟩ := H8.out.moved hM
                    have H9 := Lib.hid h9
                    clear h9 hb9 hM
                    go_wp2_with fail
                    refine (put_plain _ _ _ _ _ _ _ (KSt.cur (Hid.out H9)) hsg (KSt.keys (Hid.out H9)) 11 ⟨#[]⟩ s9 0 0 0).mono ?_
                    rintro e wz hz
                    obtain ⟨nz, rfl, hM⟩ := KSt.ret (Hid.out H9) hz
                    have HM := Lib.hid hM
                    clear hM hz
                    go_wp2_with fail
                    go_ret
                    exact ⟨nz, rfl, HM.out⟩
                  rw [Bool.not_eq_true] at t
                  have t22 := t
                  clear t
                  by_cases t : (s.toList == [104, 101, 97, 100, 101, 114]) = true
                  · go_wp2_with fail
                    refine (short24 g S i6 a6 bad6 kv 200 w8 H8.out.cur).mono ?_
                    rintro e w9 ⟨s9, rfl, hs9, hM⟩
                    obtain ⟨i9, a9, bad9, h9, hb9⟩ := H8.out.moved hM
                    have H9 := Lib.hid h9
                    clear h9 hb9 hM
                    go_wp2_with fail
                    have hkvlt : ∀ k, kv.ownBlock = some k → k < w9.heap.size := by
                      obtain ⟨nn, _, hR⟩ := H9.out.keys
                      exact fun k hk => (hR.lt k hk).2
                    refine gen_calls (Q := fun W => W.heap[w9.heap.size]? = some (.cells (keyC 9 s9 ⟨#[]⟩ 0 (.slice none 0 0) 0 0) 77 (0, 0)) ∧ KSt g S r bad w i9 a9 bad9 kv W) ⟨(MapKept.heap_alloc w9 _).1, H9.out.below ((Below.refl _ w9).alloc (Nat.le_refl _) _)⟩ ?_
                    rintro w10 ⟨hX, h10⟩
                    have hxg : g < w9.heap.size := H9.out.cur.lt
                    have hxw : w.heap.size ≤ w9.heap.size := H9.out.kk.size
                    have HKV := Lib.hid hkvlt
                    have H10 := Lib.hid h10
                    have HX := Lib.hid hX
                    clear h10 hX H9 hkvlt
                    generalize w9.heap.size = x at *
                    refine (eat_any g S i9 a9 bad9 kv 32 w10 H10.out.cur).mono ?_
                    rintro e w11 ⟨rfl, hM⟩
                    have hX11 : w11.heap[x]? = some (.cells (keyC 9 s9 ⟨#[]⟩ 0 (.slice none 0 0) 0 0) 77 (0, 0)) := by
                      obtain ⟨_, _, _, _, hK, _⟩ := hM
                      exact (hK.block x (Array.getElem?_eq_some_iff.1 HX.out).1 (by omega)).trans HX.out
                    obtain ⟨i11, a11, bad11, h11, hb11⟩ := H10.out.eaten hM
                    have H11 := Lib.hid h11
                    have HX11 := Lib.hid hX11
                    clear h11 hb11 hM hX11 HX H10
                    go_wp2_with fail
                    refine (short24 g S i11 a11 bad11 kv 200 w11 H11.out.cur).mono ?_
                    rintro e w12 ⟨s12, rfl, hs12, hM⟩
                    have hX12 : w12.heap[x]? = some (.cells (keyC 9 s9 ⟨#[]⟩ 0 (.slice none 0 0) 0 0) 77 (0, 0)) := by
                      obtain ⟨_, _, _, _, hK, _⟩ := hM
                      exact (hK.block x (Array.getElem?_eq_some_iff.1 HX11.out).1 (by omega)).trans HX11.out
                    obtain ⟨i12, a12, bad12, h12, hb12⟩ := H11.out.moved hM
                    have z0 := cell_hp hX12 (j := 0) (v := .int .i64 9) rfl
                    have z1 := cell_hp hX12 (j := 1) (v := .string s9) rfl
                    have z2 := cell_hp hX12 (j := 2) (v := .string ⟨#[]⟩) rfl
                    have z3 := cell_hp hX12 (j := 3) (v := .int .i64 0) rfl
                    have z4 := cell_hp hX12 (j := 4) (v := .slice none 0 0) rfl
                    have z5 := cell_hp hX12 (j := 5) (v := .int .i64 0) rfl
                    have z6 := cell_hp hX12 (j := 6) (v := .int .i64 0) rfl
                    have y2 : w12.frozen? ⟨x, 2, none⟩ = false := Lib.frozen_of_heap hX12 2
                    have h13 := h12.other hX12 hxg hsg hxw (fun k hk => Nat.ne_of_lt (HKV.out k hk)) 2 (.string s12)
                    have H13 := Lib.hid h13
                    clear h13 h12 hb12 hM HX11 H11 hX12
                    go_wp2_with fail
                    refine (put_plain _ _ _ _ _ _ _ (KSt.cur (Hid.out H13)) hsg (KSt.keys (Hid.out H13)) 9 s9 s12 0 0 0).mono ?_
                    rintro e wz hz
                    obtain ⟨nz, rfl, hM⟩ := KSt.ret (Hid.out H13) hz
                    have HM := Lib.hid hM
                    clear hM hz
                    go_wp2_with fail
                    go_ret
                    exact ⟨nz, rfl, HM.out⟩
                  rw [Bool.not_eq_true] at t
                  have t23 := t
                  clear t
                  by_cases t : (s.toList == [108, 97, 114, 103, 101, 114]) = true
                  · go_wp2_with fail
                    refine (number24 g S i6 a6 bad6 kv w8 H8.out.cur).mono ?_
                    rintro e w9 ⟨n9, rfl, hM⟩
                    obtain ⟨i9, a9, bad9, h9, hb9⟩ := H8.out.moved hM
                    have H9 := Lib.hid h9
                    clear h9 hb9 hM
                    go_wp2_with fail
                    refine (put_plain _ _ _ _ _ _ _ (KSt.cur (Hid.out H9)) hsg (KSt.keys (Hid.out H9)) 12 ⟨#[]⟩ ⟨#[]⟩ n9 0 0).mono ?_
                    rintro e wz hz
                    obtain ⟨nz, rfl, hM⟩ := KSt.ret (Hid.out H9) hz
                    have HM := Lib.hid hM
                    clear hM hz
                    go_wp2_with fail
                    go_ret
                    exact ⟨nz, rfl, HM.out⟩
                  rw [Bool.not_eq_true] at t
                  have t24 := t
                  clear t
                  by_cases t : (s.toList == [115, 109, 97, 108, 108, 101, 114]) = true
                  · go_wp2_with fail
                    refine (number24 g S i6 a6 bad6 kv w8 H8.out.cur).mono ?_
                    rintro e w9 ⟨n9, rfl, hM⟩
                    obtain ⟨i9, a9, bad9, h9, hb9⟩ := H8.out.moved hM
                    have H9 := Lib.hid h9
                    clear h9 hb9 hM
                    go_wp2_with fail
                    refine (put_plain _ _ _ _ _ _ _ (KSt.cur (Hid.out H9)) hsg (KSt.keys (Hid.out H9)) 13 ⟨#[]⟩ ⟨#[]⟩ n9 0 0).mono ?_
                    rintro e wz hz
                    obtain ⟨nz, rfl, hM⟩ := KSt.ret (Hid.out H9) hz
                    have HM := Lib.hid hM
                    clear hM hz
                    go_wp2_with fail
                    go_ret
                    exact ⟨nz, rfl, HM.out⟩
                  rw [Bool.not_eq_true] at t
                  have t25 := t
                  clear t
                  by_cases t : (s.toList == [117, 105, 100]) = true
                  · go_wp2_with fail
                    refine (set24 g S i6 a6 bad6 kv w8 (KSt.cur (Hid.out H8))).mono ?_
                    rintro e w9 ⟨sv, m, rfl, hm, hR, hM⟩
                    obtain ⟨i9, a9, bad9, h9, hb9⟩ := H8.out.moved hM
                    obtain ⟨sA, sN, sC, rfl⟩ : ∃ A N C, sv = .slice A N C := by
                      rcases hR.slice with ⟨rfl, _⟩ | ⟨b, c, rfl⟩
                      · exact ⟨_, _, _, rfl⟩
                      · exact ⟨_, _, _, rfl⟩
                    have hR' := hR.base (B' := g + 1) (by have := H8.out.cur.lt; omega)
                    have H9 := Lib.hid h9
                    have HR := Lib.hid hR'
                    clear hR hM h9 hb9 hR'
                    go_wp2_with fail
                    refine (put24 g S i9 a9 bad9 kv w9 H9.out.cur hsg H9.out.keys 15 ⟨#[]⟩ ⟨#[]⟩ 0 (.slice sA sN sC) 0 0 m hm HR.out).mono ?_
                    rintro e wz hz
                    obtain ⟨nz, rfl, hM⟩ := KSt.ret (Hid.out H9) hz
                    have HM := Lib.hid hM
                    clear hM hz
                    go_wp2_with fail
                    go_ret
                    exact ⟨nz, rfl, HM.out⟩
                  rw [Bool.not_eq_true] at t
                  have t26 := t
                  clear t
                  have c3 := H8.out.cur.c3
                  have f3 := H8.out.cur.f3
                  go_wp2_with fail
                  go_ret
                  exact (H8.out.kept (H8.out.cur.set3 true) ((Kept.refl g _).setg 3 _) (Nat.le_refl _) (fun _ => rfl)).done 0
                · rw [Bool.not_eq_true] at t0
                  go_wp2_with fail
                  refine (headed24 s w8).mono ?_
                  rintro e w9 ⟨t2, rfl, hB⟩
                  have H9 := Lib.hid (H8.out.below hB)
                  clear hB H8
                  go_wp2_with fail
                  refine (short24 g S i6 a6 bad6 kv 200 w9 H9.out.cur).mono ?_
                  rintro e w10 ⟨s10, rfl, hs10, hM⟩
                  obtain ⟨i10, a10, bad10, h10, hb10⟩ := H9.out.moved hM
                  have H10 := Lib.hid h10
                  clear h10 hb10 hM
                  go_wp2_with fail
                  refine (put_plain _ _ _ _ _ _ _ (KSt.cur (Hid.out H10)) hsg (KSt.keys (Hid.out H10)) 9 t2 s10 0 0 0).mono ?_
                  rintro e wz hz
                  obtain ⟨nz, rfl, hM⟩ := KSt.ret (Hid.out H10) hz
                  have HM := Lib.hid hM
                  clear hM hz
                  go_wp2_with fail
                  go_ret
                  exact ⟨nz, rfl, HM.out⟩
              · go_wp2_with fail
                refine (dated24 s w7).mono ?_
                rintro e w8 ⟨d2, rfl, hB⟩
                have H8 := Lib.hid (H7.out.below hB)
                clear hB H7
                go_wp2_with fail
                refine (day24 g S i6 a6 bad6 kv w8 H8.out.cur).mono ?_
                rintro e w9 ⟨n9, rfl, hM⟩
                obtain ⟨i9, a9, bad9, h9, hb9⟩ := H8.out.moved hM
                have H9 := Lib.hid h9
                clear h9 hb9 hM
                go_wp2_with fail
                refine (put_plain _ _ _ _ _ _ _ (KSt.cur (Hid.out H9)) hsg (KSt.keys (Hid.out H9)) d2 ⟨#[]⟩ ⟨#[]⟩ n9 0 0).mono ?_
                rintro e wz hz
                obtain ⟨nz, rfl, hM⟩ := KSt.ret (Hid.out H9) hz
                have HM := Lib.hid hM
                clear hM hz
                go_wp2_with fail
                go_ret
                exact ⟨nz, rfl, HM.out⟩
            · go_wp2_with fail
              refine (flagged24 (s.extract 2 s.size) w5).mono ?_
              rintro e w6 ⟨u2, rfl, hB⟩
              have H6 := Lib.hid (H5.out.below hB)
              clear hB H5
              go_wp2_with fail
              refine (put_plain _ _ _ _ _ _ _ (KSt.cur (Hid.out H6)) hsg (KSt.keys (Hid.out H6)) 2 ⟨#[]⟩ ⟨#[]⟩ u2 0 0).mono ?_
              rintro e wz hz
              obtain ⟨nz, rfl, hM⟩ := KSt.ret (Hid.out H6) hz
              have HM := Lib.hid hM
              clear hM hz
              go_wp2_with fail
              go_ret
              exact ⟨nz, rfl, HM.out⟩
          · rw [Bool.not_eq_true] at tu
            by_cases t : (s.toList == [97, 108, 108]) = true
            · go_wp2_with fail
              refine (put_plain _ _ _ _ _ _ _ (KSt.cur (Hid.out H5)) hsg (KSt.keys (Hid.out H5)) 0 ⟨#[]⟩ ⟨#[]⟩ 0 0 0).mono ?_
              rintro e wz hz
              obtain ⟨nz, rfl, hM⟩ := KSt.ret (Hid.out H5) hz
              have HM := Lib.hid hM
              clear hM hz
              go_wp2_with fail
              go_ret
              exact ⟨nz, rfl, HM.out⟩
            rw [Bool.not_eq_true] at t
            have t1 := t
            clear t
            by_cases t : (s.toList == [111, 108, 100]) = true
            · go_wp2_with fail
              refine (put_plain _ _ _ _ _ _ _ (KSt.cur (Hid.out H5)) hsg (KSt.keys (Hid.out H5)) 0 ⟨#[]⟩ ⟨#[]⟩ 0 0 0).mono ?_
              rintro e wz hz
              obtain ⟨nz, rfl, hM⟩ := KSt.ret (Hid.out H5) hz
              have HM := Lib.hid hM
              clear hM hz
              go_wp2_with fail
              go_ret
              exact ⟨nz, rfl, HM.out⟩
            rw [Bool.not_eq_true] at t
            have t2 := t
            clear t
            by_cases t : (s.toList == [110, 101, 119]) = true
            · go_wp2_with fail
              refine (none24 g S i4 a4 bad4 kv w5 H5.out.cur hsg H5.out.keys).mono ?_
              rintro e wz hz
              obtain ⟨nz, rfl, hM⟩ := KSt.ret (Hid.out H5) hz
              have HM := Lib.hid hM
              clear hM hz
              go_wp2_with fail
              go_ret
              exact ⟨nz, rfl, HM.out⟩
            rw [Bool.not_eq_true] at t
            have t3 := t
            clear t
            by_cases t : (s.toList == [114, 101, 99, 101, 110, 116]) = true
            · go_wp2_with fail
              refine (none24 g S i4 a4 bad4 kv w5 H5.out.cur hsg H5.out.keys).mono ?_
              rintro e wz hz
              obtain ⟨nz, rfl, hM⟩ := KSt.ret (Hid.out H5) hz
              have HM := Lib.hid hM
              clear hM hz
              go_wp2_with fail
              go_ret
              exact ⟨nz, rfl, HM.out⟩
            rw [Bool.not_eq_true] at t
            have t4 := t
            clear t
            by_cases t : (s.toList == [107, 101, 121, 119, 111, 114, 100]) = true
            · go_wp2_with fail
              refine (eat_any g S i4 a4 bad4 kv 32 w5 H5.out.cur).mono ?_
              rintro e w6 ⟨rfl, hM⟩
              obtain ⟨i6, a6, bad6, h6, hb6⟩ := H5.out.eaten hM
              have H6 := Lib.hid h6
              clear h6 hb6 hM
              go_wp2_with fail
              refine (word24 g S i6 a6 bad6 kv ⟨#[]⟩ w6 H6.out.cur (by decide)).mono ?_
              rintro e w7 ⟨s7, rfl, hs7, hM⟩
              obtain ⟨i7, a7, bad7, h7, hb7⟩ := H6.out.moved hM
              have H7 := Lib.hid h7
              clear h7 hb7 hM
              go_wp2_with fail
              refine (none24 g S i7 a7 bad7 kv w7 H7.out.cur hsg H7.out.keys).mono ?_
              rintro e wz hz
              obtain ⟨nz, rfl, hM⟩ := KSt.ret (Hid.out H7) hz
              have HM := Lib.hid hM
              clear hM hz
              go_wp2_with fail
              go_ret
              exact ⟨nz, rfl, HM.out⟩
            rw [Bool.not_eq_true] at t
            have t5 := t
            clear t
            by_cases t : (s.toList == [117, 110, 107, 101, 121, 119, 111, 114, 100]) = true
            · go_wp2_with fail
              refine (eat_any g S i4 a4 bad4 kv 32 w5 H5.out.cur).mono ?_
              rintro e w6 ⟨rfl, hM⟩
              obtain ⟨i6, a6, bad6, h6, hb6⟩ := H5.out.eaten hM
              have H6 := Lib.hid h6
              clear h6 hb6 hM
              go_wp2_with fail
              refine (word24 g S i6 a6 bad6 kv ⟨#[]⟩ w6 H6.out.cur (by decide)).mono ?_
              rintro e w7 ⟨s7, rfl, hs7, hM⟩
              obtain ⟨i7, a7, bad7, h7, hb7⟩ := H6.out.moved hM
              have H7 := Lib.hid h7
              clear h7 hb7 hM
              go_wp2_with fail
              refine (put_plain _ _ _ _ _ _ _ (KSt.cur (Hid.out H7)) hsg (KSt.keys (Hid.out H7)) 0 ⟨#[]⟩ ⟨#[]⟩ 0 0 0).mono ?_
              rintro e wz hz
              obtain ⟨nz, rfl, hM⟩ := KSt.ret (Hid.out H7) hz
              have HM := Lib.hid hM
              clear hM hz
              go_wp2_with fail
              go_ret
              exact ⟨nz, rfl, HM.out⟩
            rw [Bool.not_eq_true] at t
            have t6 := t
            clear t
            by_cases t : (s.toList == [110, 111, 116]) = true
            · have h8 : deep ≤ 8 := HD.out (by rintro rfl; rw [Lib.toList_data] at t; exact absurd t (by decide))
              go_wp2_with fail
              refine (eat_any g S i4 a4 bad4 kv 32 w5 H5.out.cur).mono ?_
              rintro e w6 ⟨rfl, hM⟩
              obtain ⟨i6, a6, bad6, h6, hb6⟩ := H5.out.eaten hM
              have H6 := Lib.hid h6
              clear h6 hb6 hM
              obtain ⟨hd1, hd2⟩ := Hd.out
              go_wp2_with fail
              refine (HN.out h8 i6 a6 bad6 kv w6 H6.out.cur H6.out.keys).mono ?_
              rintro e w7 ⟨n7, rfl, hM⟩
              obtain ⟨i7, a7, bad7, kv7, h7, hb7⟩ := H6.out.kmoved hM
              have H7 := Lib.hid h7
              clear hd1 hd2 h7 hb7 hM
              go_wp2_with fail
              refine (put_plain _ _ _ _ _ _ _ (KSt.cur (Hid.out H7)) hsg (KSt.keys (Hid.out H7)) 16 ⟨#[]⟩ ⟨#[]⟩ 0 n7 0).mono ?_
              rintro e wz hz
              obtain ⟨nz, rfl, hM⟩ := KSt.ret (Hid.out H7) hz
              have HM := Lib.hid hM
              clear hM hz
              go_wp2_with fail
              go_ret
              exact ⟨nz, rfl, HM.out⟩
            rw [Bool.not_eq_true] at t
            have t7 := t
            clear t
            by_cases t : (s.toList == [111, 114]) = true
            · have h8 : deep ≤ 8 := HD.out (by rintro rfl; rw [Lib.toList_data] at t; exact absurd t (by decide))
              go_wp2_with fail
              refine (eat_any g S i4 a4 bad4 kv 32 w5 H5.out.cur).mono ?_
              rintro e w6 ⟨rfl, hM⟩
              obtain ⟨i6, a6, bad6, h6, hb6⟩ := H5.out.eaten hM
              have H6 := Lib.hid h6
              clear h6 hb6 hM
              obtain ⟨hd1, hd2⟩ := Hd.out
              go_wp2_with fail
              refine (HN.out h8 i6 a6 bad6 kv w6 H6.out.cur H6.out.keys).mono ?_
              rintro e w7 ⟨n7, rfl, hM⟩
              obtain ⟨i7, a7, bad7, kv7, h7, hb7⟩ := H6.out.kmoved hM
              have H7 := Lib.hid h7
              clear hd1 hd2 h7 hb7 hM
              go_wp2_with fail
              refine (eat_any g S i7 a7 bad7 kv7 32 w7 H7.out.cur).mono ?_
              rintro e w8 ⟨rfl, hM⟩
              obtain ⟨i8, a8, bad8, h8, hb8⟩ := H7.out.eaten hM
              have H8 := Lib.hid h8
              clear h8 hb8 hM
              obtain ⟨hd1, hd2⟩ := Hd.out
              go_wp2_with fail
              refine (HN.out h8 i8 a8 bad8 kv7 w8 H8.out.cur H8.out.keys).mono ?_
              rintro e w9 ⟨n9, rfl, hM⟩
              obtain ⟨i9, a9, bad9, kv9, h9, hb9⟩ := H8.out.kmoved hM
              have H9 := Lib.hid h9
              clear hd1 hd2 h9 hb9 hM
              go_wp2_with fail
              refine (put_plain _ _ _ _ _ _ _ (KSt.cur (Hid.out H9)) hsg (KSt.keys (Hid.out H9)) 17 ⟨#[]⟩ ⟨#[]⟩ 0 n7 n9).mono ?_
              rintro e wz hz
              obtain ⟨nz, rfl, hM⟩ := KSt.ret (Hid.out H9) hz
              have HM := Lib.hid hM
              clear hM hz
              go_wp2_with fail
              go_ret
              exact ⟨nz, rfl, HM.out⟩
            rw [Bool.not_eq_true] at t
            have t8 := t
            clear t
            go_wp2_with fail
            refine (eat_any g S i4 a4 bad4 kv 32 w5 H5.out.cur).mono ?_
            rintro e w6 ⟨rfl, hM⟩
            obtain ⟨i6, a6, bad6, h6, hb6⟩ := H5.out.eaten hM
            have H6 := Lib.hid h6
            clear h6 hb6 hM
            go_wp2_with fail
            refine (dated24 s w6).mono ?_
            rintro e w7 ⟨d, rfl, hB⟩
            have H7 := Lib.hid (H6.out.below hB)
            clear hB H6
            cases hd : decide (0 < d)
            · go_wp2_with fail
              refine (headed24 s w7).mono ?_
              rintro e w8 ⟨hd1, rfl, hB⟩
              have H8 := Lib.hid (H7.out.below hB)
              clear hB H7
              by_cases t0 : (hd1.toList == []) = true
              · by_cases t : (s.toList == [98, 111, 100, 121]) = true
                · go_wp2_with fail
                  refine (short24 g S i6 a6 bad6 kv 200 w8 H8.out.cur).mono ?_
                  rintro e w9 ⟨s9, rfl, hs9, hM⟩
                  obtain ⟨i9, a9, bad9, h9, hb9⟩ := H8.out.moved hM
                  have H9 := Lib.hid h9
                  clear h9 hb9 hM
                  go_wp2_with fail
                  refine (put_plain _ _ _ _ _ _ _ (KSt.cur (Hid.out H9)) hsg (KSt.keys (Hid.out H9)) 10 ⟨#[]⟩ s9 0 0 0).mono ?_
                  rintro e wz hz
                  obtain ⟨nz, rfl, hM⟩ := KSt.ret (Hid.out H9) hz
                  have HM := Lib.hid hM
                  clear hM hz
                  go_wp2_with fail
                  go_ret
                  exact ⟨nz, rfl, HM.out⟩
                rw [Bool.not_eq_true] at t
                have t21 := t
                clear t
                by_cases t : (s.toList == [116, 101, 120, 116]) = true
                · go_wp2_with fail
                  refine (short24 g S i6 a6 bad6 kv 200 w8 H8.out.cur).mono ?_
                  rintro e w9 ⟨s9, rfl, hs9, hM⟩
                  obtain ⟨i9, a9, bad9, h9, hb9⟩ := H8.out.moved hM
                  have H9 := Lib.hid h9
                  clear h9 hb9 hM
                  go_wp2_with fail
                  refine (put_plain _ _ _ _ _ _ _ (KSt.cur (Hid.out H9)) hsg (KSt.keys (Hid.out H9)) 11 ⟨#[]⟩ s9 0 0 0).mono ?_
                  rintro e wz hz
                  obtain ⟨nz, rfl, hM⟩ := KSt.ret (Hid.out H9) hz
                  have HM := Lib.hid hM
                  clear hM hz
                  go_wp2_with fail
                  go_ret
                  exact ⟨nz, rfl, HM.out⟩
                rw [Bool.not_eq_true] at t
                have t22 := t
                clear t
                by_cases t : (s.toList == [104, 101, 97, 100, 101, 114]) = true
                · go_wp2_with fail
                  refine (short24 g S i6 a6 bad6 kv 200 w8 H8.out.cur).mono ?_
                  rintro e w9 ⟨s9, rfl, hs9, hM⟩
                  obtain ⟨i9, a9, bad9, h9, hb9⟩ := H8.out.moved hM
                  have H9 := Lib.hid h9
                  clear h9 hb9 hM
                  go_wp2_with fail
                  have hkvlt : ∀ k, kv.ownBlock = some k → k < w9.heap.size := by
                    obtain ⟨nn, _, hR⟩ := H9.out.keys
                    exact fun k hk => (hR.lt k hk).2
                  refine gen_calls (Q := fun W => W.heap[w9.heap.size]? = some (.cells (keyC 9 s9 ⟨#[]⟩ 0 (.slice none 0 0) 0 0) 77 (0, 0)) ∧ KSt g S r bad w i9 a9 bad9 kv W) ⟨(MapKept.heap_alloc w9 _).1, H9.out.below ((Below.refl _ w9).alloc (Nat.le_refl _) _)⟩ ?_
                  rintro w10 ⟨hX, h10⟩
                  have hxg : g < w9.heap.size := H9.out.cur.lt
                  have hxw : w.heap.size ≤ w9.heap.size := H9.out.kk.size
                  have HKV := Lib.hid hkvlt
                  have H10 := Lib.hid h10
                  have HX := Lib.hid hX
                  clear h10 hX H9 hkvlt
                  generalize w9.heap.size = x at *
                  refine (eat_any g S i9 a9 bad9 kv 32 w10 H10.out.cur).mono ?_
                  rintro e w11 ⟨rfl, hM⟩
                  have hX11 : w11.heap[x]? = some (.cells (keyC 9 s9 ⟨#[]⟩ 0 (.slice none 0 0) 0 0) 77 (0, 0)) := by
                    obtain ⟨_, _, _, _, hK, _⟩ := hM
                    exact (hK.block x (Array.getElem?_eq_some_iff.1 HX.out).1 (by omega)).trans HX.out
                  obtain ⟨i11, a11, bad11, h11, hb11⟩ := H10.out.eaten hM
                  have H11 := Lib.hid h11
                  have HX11 := Lib.hid hX11
                  clear h11 hb11 hM hX11 HX H10
                  go_wp2_with fail
                  refine (short24 g S i11 a11 bad11 kv 200 w11 H11.out.cur).mono ?_
                  rintro e w12 ⟨s12, rfl, hs12, hM⟩
                  have hX12 : w12.heap[x]? = some (.cells (keyC 9 s9 ⟨#[]⟩ 0 (.slice none 0 0) 0 0) 77 (0, 0)) := by
                    obtain ⟨_, _, _, _, hK, _⟩ := hM
                    exact (hK.block x (Array.getElem?_eq_some_iff.1 HX11.out).1 (by omega)).trans HX11.out
                  obtain ⟨i12, a12, bad12, h12, hb12⟩ := H11.out.moved hM
                  have z0 := cell_hp hX12 (j := 0) (v := .int .i64 9) rfl
                  have z1 := cell_hp hX12 (j := 1) (v := .string s9) rfl
                  have z2 := cell_hp hX12 (j := 2) (v := .string ⟨#[]⟩) rfl
                  have z3 := cell_hp hX12 (j := 3) (v := .int .i64 0) rfl
                  have z4 := cell_hp hX12 (j := 4) (v := .slice none 0 0) rfl
                  have z5 := cell_hp hX12 (j := 5) (v := .int .i64 0) rfl
                  have z6 := cell_hp hX12 (j := 6) (v := .int .i64 0) rfl
                  have y2 : w12.frozen? ⟨x, 2, none⟩ = false := Lib.frozen_of_heap hX12 2
                  have h13 := h12.other hX12 hxg hsg hxw (fun k hk => Nat.ne_of_lt (HKV.out k hk)) 2 (.string s12)
                  have H13 := Lib.hid h13
                  clear h13 h12 hb12 hM HX11 H11 hX12
                  go_wp2_with fail
                  refine (put_plain _ _ _ _ _ _ _ (KSt.cur (Hid.out H13)) hsg (KSt.keys (Hid.out H13)) 9 s9 s12 0 0 0).mono ?_
                  rintro e wz hz
                  obtain ⟨nz, rfl, hM⟩ := KSt.ret (Hid.out H13) hz
                  have HM := Lib.hid hM
                  clear hM hz
                  go_wp2_with fail
                  go_ret
                  exact ⟨nz, rfl, HM.out⟩
                rw [Bool.not_eq_true] at t
                have t23 := t
                clear t
                by_cases t : (s.toList == [108, 97, 114, 103, 101, 114]) = true
                · go_wp2_with fail
                  refine (number24 g S i6 a6 bad6 kv w8 H8.out.cur).mono ?_
                  rintro e w9 ⟨n9, rfl, hM⟩
                  obtain ⟨i9, a9, bad9, h9, hb9⟩ := H8.out.moved hM
                  have H9 := Lib.hid h9
                  clear h9 hb9 hM
                  go_wp2_with fail
                  refine (put_plain _ _ _ _ _ _ _ (KSt.cur (Hid.out H9)) hsg (KSt.keys (Hid.out H9)) 12 ⟨#[]⟩ ⟨#[]⟩ n9 0 0).mono ?_
                  rintro e wz hz
                  obtain ⟨nz, rfl, hM⟩ := KSt.ret (Hid.out H9) hz
                  have HM := Lib.hid hM
                  clear hM hz
                  go_wp2_with fail
                  go_ret
                  exact ⟨nz, rfl, HM.out⟩
                rw [Bool.not_eq_true] at t
                have t24 := t
                clear t
                by_cases t : (s.toList == [115, 109, 97, 108, 108, 101, 114]) = true
                · go_wp2_with fail
                  refine (number24 g S i6 a6 bad6 kv w8 H8.out.cur).mono ?_
                  rintro e w9 ⟨n9, rfl, hM⟩
                  obtain ⟨i9, a9, bad9, h9, hb9⟩ := H8.out.moved hM
                  have H9 := Lib.hid h9
                  clear h9 hb9 hM
                  go_wp2_with fail
                  refine (put_plain _ _ _ _ _ _ _ (KSt.cur (Hid.out H9)) hsg (KSt.keys (Hid.out H9)) 13 ⟨#[]⟩ ⟨#[]⟩ n9 0 0).mono ?_
                  rintro e wz hz
                  obtain ⟨nz, rfl, hM⟩ := KSt.ret (Hid.out H9) hz
                  have HM := Lib.hid hM
                  clear hM hz
                  go_wp2_with fail
                  go_ret
                  exact ⟨nz, rfl, HM.out⟩
                rw [Bool.not_eq_true] at t
                have t25 := t
                clear t
                by_cases t : (s.toList == [117, 105, 100]) = true
                · go_wp2_with fail
                  refine (set24 g S i6 a6 bad6 kv w8 (KSt.cur (Hid.out H8))).mono ?_
                  rintro e w9 ⟨sv, m, rfl, hm, hR, hM⟩
                  obtain ⟨i9, a9, bad9, h9, hb9⟩ := H8.out.moved hM
                  obtain ⟨sA, sN, sC, rfl⟩ : ∃ A N C, sv = .slice A N C := by
                    rcases hR.slice with ⟨rfl, _⟩ | ⟨b, c, rfl⟩
                    · exact ⟨_, _, _, rfl⟩
                    · exact ⟨_, _, _, rfl⟩
                  have hR' := hR.base (B' := g + 1) (by have := H8.out.cur.lt; omega)
                  have H9 := Lib.hid h9
                  have HR := Lib.hid hR'
                  clear hR hM h9 hb9 hR'
                  go_wp2_with fail
                  refine (put24 g S i9 a9 bad9 kv w9 H9.out.cur hsg H9.out.keys 15 ⟨#[]⟩ ⟨#[]⟩ 0 (.slice sA sN sC) 0 0 m hm HR.out).mono ?_
                  rintro e wz hz
                  obtain ⟨nz, rfl, hM⟩ := KSt.ret (Hid.out H9) hz
                  have HM := Lib.hid hM
                  clear hM hz
                  go_wp2_with fail
                  go_ret
                  exact ⟨nz, rfl, HM.out⟩
                rw [Bool.not_eq_true] at t
                have t26 := t
                clear t
                have c3 := H8.out.cur.c3
                have f3 := H8.out.cur.f3
                go_wp2_with fail
                go_ret
                exact (H8.out.kept (H8.out.cur.set3 true) ((Kept.refl g _).setg 3 _) (Nat.le_refl _) (fun _ => rfl)).done 0
              · rw [Bool.not_eq_true] at t0
                go_wp2_with fail
                refine (headed24 s w8).mono ?_
                rintro e w9 ⟨t2, rfl, hB⟩
                have H9 := Lib.hid (H8.out.below hB)
                clear hB H8
                go_wp2_with fail
                refine (short24 g S i6 a6 bad6 kv 200 w9 H9.out.cur).mono ?_
                rintro e w10 ⟨s10, rfl, hs10, hM⟩
                obtain ⟨i10, a10, bad10, h10, hb10⟩ := H9.out.moved hM
                have H10 := Lib.hid h10
                clear h10 hb10 hM
                go_wp2_with fail
                refine (put_plain _ _ _ _ _ _ _ (KSt.cur (Hid.out H10)) hsg (KSt.keys (Hid.out H10)) 9 t2 s10 0 0 0).mono ?_
                rintro e wz hz
                obtain ⟨nz, rfl, hM⟩ := KSt.ret (Hid.out H10) hz
                have HM := Lib.hid hM
                clear hM hz
                go_wp2_with fail
                go_ret
                exact ⟨nz, rfl, HM.out⟩
            · go_wp2_with fail
              refine (dated24 s w7).mono ?_
              rintro e w8 ⟨d2, rfl, hB⟩
              have H8 := Lib.hid (H7.out.below hB)
              clear hB H7
              go_wp2_with fail
              refine (day24 g S i6 a6 bad6 kv w8 H8.out.cur).mono ?_
              rintro e w9 ⟨n9, rfl, hM⟩
              obtain ⟨i9, a9, bad9, h9, hb9⟩ := H8.out.moved hM
              have H9 := Lib.hid h9
              clear h9 hb9 hM
              go_wp2_with fail
              refine (put_plain _ _ _ _ _ _ _ (KSt.cur (Hid.out H9)) hsg (KSt.keys (Hid.out H9)) d2 ⟨#[]⟩ ⟨#[]⟩ n9 0 0).mono ?_
              rintro e wz hz
              obtain ⟨nz, rfl, hM⟩ := KSt.ret (Hid.out H9) hz
              have HM := Lib.hid hM
              clear hM hz
              go_wp2_with fail
              go_ret
              exact ⟨nz, rfl, HM.out⟩
      · go_wp2_with fail
        refine (flagged24 s w5).mono ?_
        rintro e w6 ⟨v6, rfl, hB⟩
        have H6 := Lib.hid (H5.out.below hB)
        clear hB H5
        go_wp2_with fail
        refine (put_plain _ _ _ _ _ _ _ (KSt.cur (Hid.out H6)) hsg (KSt.keys (Hid.out H6)) 1 ⟨#[]⟩ ⟨#[]⟩ v6 0 0).mono ?_
        rintro e wz hz
        obtain ⟨nz, rfl, hM⟩ := KSt.ret (Hid.out H6) hz
        have HM := Lib.hid hM
        clear hM hz
        go_wp2_with fail
        go_ret
        exact ⟨nz, rfl, HM.out⟩)
  · have h8 : bad1 = false := by cases bad1; rfl; exact absurd (hv rfl) (by decide)
    obtain ⟨i2, a2, bad2, h2, hb2⟩ := H1.out.moved hM2
    have H2 := Lib.hid h2
    clear h2 hb2 hM2 hv
    obtain ⟨hd1, hd2⟩ := Hd.out
    go_wp2_with fail
    refine (together24 g S (deep + 1) (HN.out (HB1.out h8)) true i2 a2 bad2 kv w2 H2.out.cur hsg H2.out.keys).mono ?_
    rintro e w3 h3
    obtain ⟨n3, rfl, hM⟩ := H2.out.ret h3
    have HM := Lib.hid hM
    clear hM h3
    go_wp2_with fail
    go_ret
    exact ⟨n3, rfl, HM.out⟩

end Go.Proofs.YtjamgkcmpcnfpaaGreatDoor

/-
  The cursor's 'search': keys, behind a charset or not.
-/
import Derived.Test.YtjamgkcmpcnfpaaGreatDoorS19
import Derived.Test.YtjamgkcmpcnfpaaGreatDoorS26
set_option linter.unusedVariables false
set_option linter.unusedSimpArgs false

namespace Go.Proofs.YtjamgkcmpcnfpaaGreatDoor
open Go.RowKit

theorem key_down (g : Nat) (S : Src) (hsg : S.b < g) : ∀ n : Nat, n ≤ 9 → KeyAt g S (9 - (n : Int))
  | 0, _ => key_step g S hsg _ (by omega) (fun h => absurd h (by omega))
  | n + 1, h => key_step g S hsg _ (by omega) (fun _ => by
      have := key_down g S hsg n (by omega)
      rwa [show (9 : Int) - ((n : Nat) : Int) = 9 - ((n + 1 : Nat) : Int) + 1 by omega] at this)

theorem key_zero (g : Nat) (S : Src) (hsg : S.b < g) : KeyAt g S 0 := by
  have := key_down g S hsg 9 (by omega)
  exact this

/-- The keys are returned. -/
def SearchP (g : Nat) (S : Src) (r : Nat) (bad : Bool) (w : World) (e : Ending) (W : World) : Prop :=
  ∃ (A : Option Addr) (n C : Nat), e = .returned (.slice A n C) ∧ ∃ i a b, KSt g S r bad w i a b (.slice A n C) W

theorem KMoves.kst {g : Nat} {S : Src} {r i a : Nat} {bad b : Bool} {kv : Value} {w w1 W : World} (h0 : KSt g S r bad w i a b kv w1) (hM : KMoves g S (left S i a) b w1 W) : ∃ (A : Option Addr) (n C : Nat) (i2 a2 : Nat) (b2 : Bool), KSt g S r bad w i2 a2 b2 (.slice A n C) W := by
  obtain ⟨i2, a2, b2, kv2, h2, _⟩ := h0.kmoved hM
  obtain ⟨n, _, hR⟩ := h2.keys
  rcases hR.slice with ⟨rfl, _⟩ | ⟨b, c, rfl⟩
  · exact ⟨_, _, _, _, _, _, h2⟩
  · exact ⟨_, _, _, _, _, _, h2⟩

set_option maxHeartbeats 16000000 in
set_option maxRecDepth 100000 in
theorem search24 (g : Nat) (S : Src) (hsg : S.b < g) (i a : Nat) (bad : Bool) (kA : Option Addr) (kN kC : Nat) (w : World) (h : Cur g S w i a bad (.slice kA kN kC)) (hk : Keys g (.slice kA kN kC) w) :
    Calls Tryz.prog 70 #[CC g] w (SearchP g S (left S i a) bad w) := by
  have h0 := KSt.start h hk
  generalize left S i a = r at h0 ⊢
  have H0 := Lib.hid h0
  have HK0 := Lib.hid (key_zero g S hsg)
  have hgl := h.lt
  clear h hk h0
  go_enter Tryz.func70, Tryz.ntmps70
  go_wp2_with (first
    | (refine wpList_load_row rfl 69 _ rfl g rfl 69 _ (0, 0) _ H0.out.cur.hp Tryz.underlying69 rfl (curC_size _ _ _ _ _) ?_)
    | (refine wpList_store_row rfl 69 _ _ rfl w.heap.size _ rfl rfl 69 curZ (MapKept.heap_alloc w _).1 (curC_size _ _ _ _ _) rfl (curC_one _ _ _ _ _ _ _) ?_))
  refine gen_call (Q := Copied g S i a bad (.slice kA kN kC) w) (copied H0.out.cur) ?_
  rintro w2 ⟨hC2, hK2, hV2⟩
  have hxg : w.heap.size ≠ g := by omega
  have H2 := Lib.hid (H0.out.kept hC2 hK2 (Nat.le_refl _) id)
  refine (name24 g S i a bad _ ⟨#[]⟩ w2 hC2 (by decide)).mono ?_
  rintro e w3 ⟨s, rfl, hs, ⟨i3, a3, b3, hC3, hK3, hl3, hb3⟩, hno⟩
  clear hno
  have HV3 := Lib.hid ((hK3.block _ (Array.getElem?_eq_some_iff.1 hV2).1 hxg).trans hV2)
  have H3 := Lib.hid (H2.out.kept hC3 hK3 hl3 hb3)
  have HK03 := Lib.hid (hK2.trans hK3)
  clear hC2 hK2 hV2 hC3 hK3 hb3 hs H2
  by_cases t : (s.toList == [99, 104, 97, 114, 115, 101, 116]) = true
  · go_wp2_with fail
    refine (eat_any g S i3 a3 b3 _ 32 w3 H3.out.cur).mono ?_
    rintro e w4 ⟨rfl, hM⟩
    obtain ⟨i4, a4, b4, h4, _⟩ := H3.out.eaten hM
    have H4 := Lib.hid h4
    clear h4 hM
    go_wp2_with fail
    refine (str24 g S i4 a4 b4 _ ⟨#[]⟩ w4 H4.out.cur (by decide)).mono ?_
    rintro e w5 ⟨s5, rfl, hs5, hM⟩
    obtain ⟨i5, a5, b5, h5, _⟩ := H4.out.moved hM
    have H5 := Lib.hid h5
    clear h5 hM
    go_wp2_with fail
    refine (small20 s5 w5 (by omega)).mono ?_
    rintro e w6 ⟨rfl, hB⟩
    have H6 := Lib.hid (H5.out.below hB)
    clear hB hs5
    generalize (⟨(smallL s5.data.toList).toArray⟩ : ByteArray) = q
    have fin : ∀ (f : Bool) (W : World), Cur g S W i5 a5 (b5 || f) (.slice kA kN kC) → Kept g w6 W → KSt g S r bad w i5 a5 (b5 || f) (.slice kA kN kC) W := fun f W hC hK => H6.out.kept hC hK (Nat.le_refl _) (fun hb => by rw [hb]; rfl)
    have FIN := Lib.hid fin
    clear fin
    by_cases t1 : (q.toList == [117, 115, 45, 97, 115, 99, 105, 105]) = true
    · have t1' : (q.toList != [117, 115, 45, 97, 115, 99, 105, 105]) = false := by simpa using t1
      go_wp2_with fail
      refine (fail_any g S i5 a5 b5 _ _ _ H6.out.cur).mono ?_
      rintro e w7 ⟨rfl, hC, hK⟩
      have H7 := Lib.hid (FIN.out _ _ hC hK)
      clear hC hK t1'
      generalize (b5 || false) = b7 at *
      go_wp2_with fail
      refine (eat_any g S i5 a5 b7 _ 32 w7 H7.out.cur).mono ?_
      rintro e w8 ⟨rfl, hM⟩
      obtain ⟨i8, a8, b8, h8, _⟩ := H7.out.eaten hM
      have H8 := Lib.hid h8
      clear h8 hM
      go_wp2_with fail
      refine (together24 g S 0 HK0.out false i8 a8 b8 _ w8 H8.out.cur hsg H8.out.keys).mono ?_
      rintro e w9 ⟨n9, rfl, hM⟩
      obtain ⟨A, n, C, i9, a9, b9, h9⟩ := KMoves.kst H8.out hM
      have c4 := h9.cur.c4
      have H9 := Lib.hid h9
      clear h9 hM
      go_wp2_with fail
      go_ret
      exact ⟨_, _, _, rfl, _, _, _, H9.out⟩
    · rw [Bool.not_eq_true] at t1
      have t1' : (q.toList != [117, 115, 45, 97, 115, 99, 105, 105]) = true := by simpa using t1
      go_wp2_with fail
      refine (fail_any g S i5 a5 b5 _ _ _ H6.out.cur).mono ?_
      rintro e w7 ⟨rfl, hC, hK⟩
      have H7 := Lib.hid (FIN.out _ _ hC hK)
      clear hC hK t1'
      generalize (b5 || !q.toList == [117, 116, 102, 45, 56]) = b7 at *
      go_wp2_with fail
      refine (eat_any g S i5 a5 b7 _ 32 w7 H7.out.cur).mono ?_
      rintro e w8 ⟨rfl, hM⟩
      obtain ⟨i8, a8, b8, h8, _⟩ := H7.out.eaten hM
      have H8 := Lib.hid h8
      clear h8 hM
      go_wp2_with fail
      refine (together24 g S 0 HK0.out false i8 a8 b8 _ w8 H8.out.cur hsg H8.out.keys).mono ?_
      rintro e w9 ⟨n9, rfl, hM⟩
      obtain ⟨A, n, C, i9, a9, b9, h9⟩ := KMoves.kst H8.out hM
      have c4 := h9.cur.c4
      have H9 := Lib.hid h9
      clear h9 hM
      go_wp2_with fail
      go_ret
      exact ⟨_, _, _, rfl, _, _, _, H9.out⟩
  · rw [Bool.not_eq_true] at t
    go_wp2_with (first
      | (refine wpList_load_row rfl 69 _ rfl w.heap.size rfl 69 _ (0, 0) _ HV3.out Tryz.underlying69 rfl (curC_size _ _ _ _ _) ?_)
      | (refine wpList_store_row rfl 69 _ _ rfl g _ rfl rfl 69 _ H3.out.cur.hp (curC_size _ _ _ _ _) rfl (curC_one _ _ _ _ _ _ _) ?_))
    have hC5 := H0.out.cur.restore H3.out.cur
    have H5 := Lib.hid (H0.out.kept hC5 (HK03.out.setRowg (curC S i a bad (.slice kA kN kC))) (Nat.le_refl _) id)
    generalize w3.setRow g (curC S i a bad (.slice kA kN kC)) = w5 at *
    clear hC5
    refine (together24 g S 0 HK0.out false i a bad _ w5 H5.out.cur hsg H5.out.keys).mono ?_
    rintro e w9 ⟨n9, rfl, hM⟩
    obtain ⟨A, n, C, i9, a9, b9, h9⟩ := KMoves.kst H5.out hM
    have c4 := h9.cur.c4
    have H9 := Lib.hid h9
    clear h9 hM
    go_wp2_with fail
    go_ret
    exact ⟨_, _, _, rfl, _, _, _, H9.out⟩

end Go.Proofs.YtjamgkcmpcnfpaaGreatDoor
